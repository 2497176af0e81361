/- -/
import Derived.Test.YtdkimcnlhmhpgaaGreatH26
import Derived.Test.YtdkimcnlhmhpgaaGreatH34
set_option linter.unusedVariables false
set_option linter.unusedSimpArgs false
namespace Go.Proofs.YtdkimcnlhmhpgaaGreat
open Go.RowKit
theorem step_append_runJ {P : Program} {ops : Array Oper} {o : Oper} {a : Act} {w : World} {K : Act → World → Prop} {Q : Exit → Act → World → Prop} {E : Prop}
  (hg : o.guard = none) (d x : Operand) (dT sT : TypeId) (hop : o.op = Op.call { callee := Callee.builtin Builtin.append, args := #[d, x], argTypes := #[dT, sT] })
  (v u : Value) (hd : a.eval d = v) (hx : a.eval x = u) {v' : Value} {w' : World} (hr : (Builtin.append_ #[dT, sT] o.type #[v, u]).run P w = .ok v' w') (hK : K (a.put o.dst v') w') :
  if Region.wanted o (yielded ops a.tmps) = true then Oper.wp P o a w K Q else E := by
 have hw : Region.wanted o (yielded ops a.tmps) = true := by simp [Region.wanted, hg]
 rw [if_pos hw]
 unfold Oper.wp
 simp [execOp, hop, resolve, invoke, builtin, hd, hx, hr, Result.andThen]
 exact hK
def RecsAt (w0 w : World) (bx : Nat) (l : List JRec) : Prop :=
 ∃ v vs, Own w bx #[v] 92 ∧ vs.map (·.1) = l ∧ w.ownsRow w0.heap.size 102 5 v vs.length (reccells vs) ∧ (∀ x ∈ vs, RunsIn w0 x.2 x.1.runs 0 w0.heap.size ∧ x.1.fits) ∧ Kept [] w0 w ∧ w0.heap.size ≤ bx
theorem RecsAt.val {w0 w : World} {bx : Nat} {l : List JRec} (h : RecsAt w0 w bx l) : ∃ v, Own w bx #[v] 92 ∧ RecsIn w v l 0 w.heap.size ∧ Kept [] w0 w := by
 obtain ⟨v, vs, h1, rfl, h3, h4, h5, h6⟩ := h
 refine ⟨v, h1, ?_, h5⟩
 by_cases h0 : vs = []
 ·subst h0
  obtain ⟨p, c, rfl⟩ := own_shape h3
  exact Or.inl ⟨rfl, p, c, rfl⟩
 ·have hp : 0 < vs.length := List.length_pos_iff.2 h0
  obtain ⟨g, c, rfl, g1, g2, g3, g4, g5⟩ := ownsRow_at h3 (by simpa using hp)
  refine Or.inr ⟨g, 0, c, by simp, fun i hi => ?_, Nat.zero_le _, g2, Nat.le_refl _, fun e => h0 (List.map_eq_nil_iff.1 e), by simpa using g3, g4⟩
  have hi' : i < vs.length := by simpa using hi
  obtain ⟨q1, q2⟩ := h4 _ (List.getElem_mem hi')
  refine ⟨[Value.int .i64 vs[i].1.kind, Value.int .u32 vs[i].1.id, Value.string (bs vs[i].1.name), Value.int .i64 vs[i].1.size, vs[i].2], rfl, ⟨vs[i].2, by rw [List.getElem_map], by rw [List.getElem_map]; exact (q1.kept0 h5).upto, by rw [List.getElem_map]; exact q2⟩, fun j u hj => ?_⟩
  rw [Nat.zero_add]
  exact g5 _ _ (reccells_get vs i hi' j u hj)
theorem told_take {l : List JItem} {k : Int} {j : Nat} (h : j < l.length) : (l.take (j + 1)).map (·.told k) = (l.take j).map (·.told k) ++ [(l[j]'h).told k] := by
 rw [List.take_succ_eq_append_getElem h, List.map_append]; rfl
set_option maxRecDepth 100000 in
set_option maxHeartbeats 4000000 in
theorem zadd (k : Int) (vl : Value) (l : List JItem) (L : List JRec) (bx : Nat) (w0 w : World) (h : ItemsIn w0 vl l) (hA : RecsAt w0 w bx L) (hlen : L.length + l.length ≤ 100000) (hkw : (Lit.int .i64 k).wf = true) :
  Calls Tryz.prog 181 #[.int .i64 k, vl, .pointer (some ⟨bx, 0, none⟩)] w fun e w' => e = .returned (.tuple #[]) ∧ RecsAt w0 w' bx (L ++ l.map (·.told k)) := by
 obtain ⟨i0, hi0, hz0, hz1, hz2⟩ := infoRec
 obtain ⟨p, c, rfl⟩ := h.shape
 have H := Lib.hid h
 have HA := Lib.hid hA
 have HLEN := Lib.hid hlen
 have hl' : (l.length : Int) ≤ 1000000 := by omega
 clear h hA hlen
 go_enter Tryz.func181, Tryz.ntmps181
 go_wp2_with fail
 go_loopw [9] (fun i wr => ∃ j : Nat, j ≤ l.length ∧ i = .int .i64 j ∧ RecsAt w0 wr bx (L ++ (l.take j).map (·.told k))) (fun i _ => l.length - (intOf i).toNat)
 case atStart => exact ⟨0, Nat.zero_le _, rfl, by simpa using HA.out⟩
 case round =>
  obtain ⟨j, hj, rfl, hR⟩ := hrel
  by_cases hlt : j < l.length
  ·have i1 : (j : Int) < l.length := by omega
   obtain ⟨b, off, kv, rfl, hia, hb, hc1, hc2, HIA⟩ := H.out.at4 j hlt
   have htk := told_take (k := k) hlt
   obtain ⟨v, vs, ho, hvs, hrow, hvr, hK, hbx⟩ := hR
   obtain ⟨y0, y1, y2, y3⟩ := HIA wr hK
   have htold := fun W => ztold k (l[j]'hlt) kv W hia.slv
   have hnew : RunsIn w0 kv ((l[j]'hlt).told k).runs 0 w0.heap.size ∧ ((l[j]'hlt).told k).fits := ⟨hia.1, JItem.told_fits hia.2.1 hkw⟩
   obtain ⟨pk, nk, ck, rfl⟩ := hia.slv
   have hvl : vs.length ≤ 100000 := by
    have := congrArg List.length hvs
    rw [List.length_map, List.length_append, List.length_map, List.length_take] at this
    have := HLEN.out
    omega
   have HVS := Lib.hid hvs
   have HTK := Lib.hid htk
   have HNEW := Lib.hid hnew
   have HVR := Lib.hid hvr
   have HT := Lib.hid htold
   have HLT := Lib.hid hlt
   have HVL := Lib.hid hvl
   have HKW := Lib.hid hK
   have HBX := Lib.hid hbx
   have HNE : Hid (wr.heap.size ≠ bx) := Lib.hid (fun e => by have := ho.lt; omega)
   unfold JItem.told JRec.cells JItem.cells at HT
   clear hvs htk hnew hvr htold hia HIA hb hvl
   generalize hLA : l[j]'hlt = A at *
   clear hLA
   have OB := Lib.hid (ho.alloc (.cells #[.int .u32 A.id, .string (bs A.name), .int .i64 A.size, .slice pk nk ck] 113))
   have OI := Lib.hid (Own.new wr #[.int .u32 A.id, .string (bs A.name), .int .i64 A.size, .slice pk nk ck] 113)
   have ROW := Lib.hid (World.ownsRow.alloc hrow (.cells #[.int .u32 A.id, .string (bs A.name), .int .i64 A.size, .slice pk nk ck] 113))
   have KW := Lib.hid (hK.alloc (.cells #[.int .u32 A.id, .string (bs A.name), .int .i64 A.size, .slice pk nk ck] 113))
   clear ho hrow hK hbx hlt
   obtain ⟨pv, cv, rfl⟩ := own_shape ROW.out
   go_wp2_with fail
   refine wp_region_held_drew (S := (fun W => (W.cell? ⟨wr.heap.size, 0, none⟩ = some (.int .u32 A.id) ∧ W.cell? ⟨wr.heap.size, 1, none⟩ = some (.string (bs A.name)) ∧ W.cell? ⟨wr.heap.size, 2, none⟩ = some (.int .i64 A.size) ∧ W.cell? ⟨wr.heap.size, 3, none⟩ = some (.slice pk nk ck)))) (by kernel_rfl) (by exact OI.out.drew.c4) (fun hHeld => ?_)
   have b1 := OB.out.drew.cell 0 (by simp)
   simp only [List.getElem_toArray, List.getElem_cons_zero] at b1
   refine take_at (i := 1) (d := some 14) (v := ?_) rfl rfl (by kernel_rfl) (by kernel_rfl) (by kernel_rfl) (fun _ _ _ h => h) (Or.inl ⟨by rfl, ?_⟩) (by assumption) ?_
   rotate_left
   ·(intro w hSw; (try dsimp only at hSw); go_simp; try with_reducible rfl)
   try simp only [Act.put, List.setIfInBounds_toArray, List.set_cons_zero, List.set_cons_succ]
   refine take_at (i := 2) (d := some 15) (v := ?_) rfl rfl (by kernel_rfl) (by kernel_rfl) (by kernel_rfl) (fun _ _ _ h => h) (Or.inl ⟨by rfl, ?_⟩) (by assumption) ?_
   rotate_left
   ·(intro w hSw; (try dsimp only at hSw); go_simp; try with_reducible rfl)
   try simp only [Act.put, List.setIfInBounds_toArray, List.set_cons_zero, List.set_cons_succ]
   refine wpAnyH_ready (rs := [0, 3]) (by kernel_rfl) (by simp) ?_
   refine (AllReadyH.cons rfl (fun K hK => ?_) (AllReadyH.cons rfl (fun K hK => ?_) AllReadyH.nil))
   ·skip
    go_simp
    refine hK.out _ _ ?_ (fun hHeld => ?_)
    ·exact OI.out.drew.c4
    clear hK K
    try simp only [Act.put, List.setIfInBounds_toArray, List.set_cons_zero, List.set_cons_succ]
    refine wpAnyH_ready (rs := [3]) (by kernel_rfl) (by simp) ?_
    refine (AllReadyH.cons rfl (fun K hK => ?_) AllReadyH.nil)
    go_simp
    ((with_reducible refine (HT.out _).mono ?_)); rintro e w3 ⟨rfl, k3⟩
    have OB3 := Lib.hid (k3.own OB.out.drew (by simp))
    have OI3 := Lib.hid (k3.own OI.out.drew (by simp))
    have ROW3 := Lib.hid (ownsRow_kept (World.ownsRow.drew ROW.out) k3 (by simp))
    have K3 := Lib.hid (KW.out.drew.trans k3)
    go_wp2_with fail
    refine hK.out _ _ ?_ (fun hHeld => ?_)
    ·exact OI3.out.c4
    clear hK K
    try simp only [Act.put, List.setIfInBounds_toArray, List.set_cons_zero, List.set_cons_succ]
    refine wpAnyH_ready (rs := [4]) (by kernel_rfl) (by simp) ?_
    refine (AllReadyH.cons rfl (fun K hK => ?_) AllReadyH.nil)
    go_simp
    refine hK.out _ _ ?_ (fun hHeld => ?_)
    ·go_keep
    clear hK K
    try simp only [Act.put, List.setIfInBounds_toArray, List.set_cons_zero, List.set_cons_succ]
    have hsrc := Own.new w3 #[.int .i64 k, .int .u32 A.id, .string (bs A.name), .int .i64 A.size, .slice pk nk ck] 102
    obtain ⟨v5, w5, hrun, hrow5, hgrow5, _, _⟩ := run_append_own_at (P := Tryz.prog) (w3.alloc (.cells #[.int .i64 k, .int .u32 A.id, .string (bs A.name), .int .i64 A.size, .slice pk nk ck] 102)) w0.heap.size 92 92 102 i0 _ 5 64 Tryz.underlying92 hi0 hz0 hz1 hz2 rfl (by decide) _ vs.length (reccells vs) (World.ownsRow.alloc ROW3.out _) ⟨w3.heap.size, 0, none⟩ 1 1 [.int .i64 k, .int .u32 A.id, .string (bs A.name), .int .i64 A.size, .slice pk nk ck] rfl (fun q u hq => by
     have hq5 := (List.getElem?_eq_some_iff.1 hq).1
     rw [Go.WideShapes.add_plain, Nat.zero_add, hsrc.cell q (by simpa using hq5)]
     rw [← hq]; simp [List.getElem?_eq_getElem hq5]) (by intro u hu; simp at hu; rcases hu with rfl | rfl | rfl | rfl | rfl <;> rfl) (by have := HVL.out; unfold maxLen; omega) (by have := HVL.out; omega) (by have := K3.out.size; simp; omega)
    obtain ⟨p5, c5, rfl⟩ := own_shape hrow5
    obtain ⟨T, hT⟩ : ∃ T : List Nat, T = ((Value.slice pv vs.length cv).ownBlock).toList := ⟨_, rfl⟩
    have hTb : bx ∉ T := fun hb => by
     rw [hT, Option.mem_toList] at hb
     exact own_row_ne ROW3.out OB3.out (by decide) hb
    have hTi : wr.heap.size ∉ T := fun hb => by
     rw [hT, Option.mem_toList] at hb
     exact own_row_ne ROW3.out OI3.out (by decide) hb
    have kT5 : Kept T _ w5 := (Kept.refl T _).grown hgrow5 (fun q hq => Or.inl (by rw [hT, Option.mem_toList]; exact hq))
    have OB5 := Lib.hid (kT5.own (OB3.out.alloc _) hTb)
    have OI5 := Lib.hid (kT5.own (OI3.out.alloc _) hTi)
    have K5 := Lib.hid ((K3.out.alloc _).grown hgrow5 (fun q hq => Or.inr (World.ownsRow.lt ROW3.out q hq).1))
    have ROW5 := Lib.hid hrow5
    have HRUN := Lib.hid hrun
    clear hrow5 hgrow5 hT hTb hTi kT5 hsrc hrun
    refine wpAnyH_ready (rs := [5]) (by kernel_rfl) (by simp) ?_
    refine (AllReadyH.cons rfl (fun K hK => ?_) AllReadyH.nil)
    refine step_append_runJ rfl _ _ 92 92 rfl _ _ (by simp [Act.eval, Act.put]) (by simp [Act.eval, Act.put]) HRUN.out ?_
    refine hK.out _ _ ?_ (fun hHeld => ?_)
    ·exact OI5.out.c4
    clear hK K
    try simp only [Act.put, List.setIfInBounds_toArray, List.set_cons_zero, List.set_cons_succ]
    have b0 := OB5.out.cell 0 (by simp)
    simp only [List.getElem_toArray, List.getElem_cons_zero] at b0
    have z0 := OB5.out.free 0
    refine wpAnyH_ready (rs := [6]) (by kernel_rfl) (by simp) ?_
    refine (AllReadyH.cons rfl (fun K hK => ?_) AllReadyH.nil)
    go_simp
    refine hK.out _ _ ?_ (fun hHeld => ?_)
    ·exact (OI5.out.other (p := ⟨bx, 0, none⟩) HNE.out _).c4
    clear hK K
    try simp only [Act.put, List.setIfInBounds_toArray, List.set_cons_zero, List.set_cons_succ]
    refine wpAnyH_done (by kernel_rfl) ?_ _
    go_wp2_with fail
    go_roundw
    case rel =>
     refine ⟨j + 1, HLT.out, by go_num, .slice p5 (vs.length + 1) c5, vs ++ [(A.told k, .slice pk nk ck)], ?_, ?_, ?_, ?_, ?_, HBX.out⟩
     ·exact OB5.out.set 0 _
     ·rw [List.map_append, HVS.out, List.append_assoc, HTK.out]; rfl
     ·rw [reccells_snoc, List.length_append, List.length_singleton]
      exact ownsRow_keptO ROW5.out ((Kept.refl [bx] w5).setCell (p := ⟨bx, 0, none⟩) (Or.inl (by simp)) _) OB5.out (by decide)
     ·intro x hx
      rcases List.mem_append.1 hx with hx | hx
      ·exact HVR.out x hx
      ·have : x = (A.told k, .slice pk nk ck) := by simpa using hx
       subst this; exact HNEW.out
     ·exact K5.out.setCell (p := ⟨bx, 0, none⟩) (Or.inr HBX.out) _
    case measure => (have h := HLT.out; simp [intOf]; omega)
   ·skip
    go_simp
    ((with_reducible refine (HT.out _).mono ?_)); rintro e w3 ⟨rfl, k3⟩
    have OB3 := Lib.hid (k3.own OB.out.drew (by simp))
    have OI3 := Lib.hid (k3.own OI.out.drew (by simp))
    have ROW3 := Lib.hid (ownsRow_kept (World.ownsRow.drew ROW.out) k3 (by simp))
    have K3 := Lib.hid (KW.out.drew.trans k3)
    go_wp2_with fail
    refine hK.out _ _ ?_ (fun hHeld => ?_)
    ·exact OI3.out.c4
    clear hK K
    try simp only [Act.put, List.setIfInBounds_toArray, List.set_cons_zero, List.set_cons_succ]
    have b3 := OB3.out.cell 0 (by simp)
    simp only [List.getElem_toArray, List.getElem_cons_zero] at b3
    refine wpAnyH_ready (rs := [0, 4]) (by kernel_rfl) (by simp) ?_
    refine (AllReadyH.cons rfl (fun K hK => ?_) (AllReadyH.cons rfl (fun K hK => ?_) AllReadyH.nil))
    ·skip
     go_simp
     refine hK.out _ _ ?_ (fun hHeld => ?_)
     ·exact OI3.out.c4
     clear hK K
     try simp only [Act.put, List.setIfInBounds_toArray, List.set_cons_zero, List.set_cons_succ]
     refine wpAnyH_ready (rs := [4]) (by kernel_rfl) (by simp) ?_
     refine (AllReadyH.cons rfl (fun K hK => ?_) AllReadyH.nil)
     go_simp
     refine hK.out _ _ ?_ (fun hHeld => ?_)
     ·go_keep
     clear hK K
     try simp only [Act.put, List.setIfInBounds_toArray, List.set_cons_zero, List.set_cons_succ]
     have hsrc := Own.new w3 #[.int .i64 k, .int .u32 A.id, .string (bs A.name), .int .i64 A.size, .slice pk nk ck] 102
     obtain ⟨v5, w5, hrun, hrow5, hgrow5, _, _⟩ := run_append_own_at (P := Tryz.prog) (w3.alloc (.cells #[.int .i64 k, .int .u32 A.id, .string (bs A.name), .int .i64 A.size, .slice pk nk ck] 102)) w0.heap.size 92 92 102 i0 _ 5 64 Tryz.underlying92 hi0 hz0 hz1 hz2 rfl (by decide) _ vs.length (reccells vs) (World.ownsRow.alloc ROW3.out _) ⟨w3.heap.size, 0, none⟩ 1 1 [.int .i64 k, .int .u32 A.id, .string (bs A.name), .int .i64 A.size, .slice pk nk ck] rfl (fun q u hq => by
      have hq5 := (List.getElem?_eq_some_iff.1 hq).1
      rw [Go.WideShapes.add_plain, Nat.zero_add, hsrc.cell q (by simpa using hq5)]
      rw [← hq]; simp [List.getElem?_eq_getElem hq5]) (by intro u hu; simp at hu; rcases hu with rfl | rfl | rfl | rfl | rfl <;> rfl) (by have := HVL.out; unfold maxLen; omega) (by have := HVL.out; omega) (by have := K3.out.size; simp; omega)
     obtain ⟨p5, c5, rfl⟩ := own_shape hrow5
     obtain ⟨T, hT⟩ : ∃ T : List Nat, T = ((Value.slice pv vs.length cv).ownBlock).toList := ⟨_, rfl⟩
     have hTb : bx ∉ T := fun hb => by
      rw [hT, Option.mem_toList] at hb
      exact own_row_ne ROW3.out OB3.out (by decide) hb
     have hTi : wr.heap.size ∉ T := fun hb => by
      rw [hT, Option.mem_toList] at hb
      exact own_row_ne ROW3.out OI3.out (by decide) hb
     have kT5 : Kept T _ w5 := (Kept.refl T _).grown hgrow5 (fun q hq => Or.inl (by rw [hT, Option.mem_toList]; exact hq))
     have OB5 := Lib.hid (kT5.own (OB3.out.alloc _) hTb)
     have OI5 := Lib.hid (kT5.own (OI3.out.alloc _) hTi)
     have K5 := Lib.hid ((K3.out.alloc _).grown hgrow5 (fun q hq => Or.inr (World.ownsRow.lt ROW3.out q hq).1))
     have ROW5 := Lib.hid hrow5
     have HRUN := Lib.hid hrun
     clear hrow5 hgrow5 hT hTb hTi kT5 hsrc hrun
     refine wpAnyH_ready (rs := [5]) (by kernel_rfl) (by simp) ?_
     refine (AllReadyH.cons rfl (fun K hK => ?_) AllReadyH.nil)
     refine step_append_runJ rfl _ _ 92 92 rfl _ _ (by simp [Act.eval, Act.put]) (by simp [Act.eval, Act.put]) HRUN.out ?_
     refine hK.out _ _ ?_ (fun hHeld => ?_)
     ·exact OI5.out.c4
     clear hK K
     try simp only [Act.put, List.setIfInBounds_toArray, List.set_cons_zero, List.set_cons_succ]
     have b0 := OB5.out.cell 0 (by simp)
     simp only [List.getElem_toArray, List.getElem_cons_zero] at b0
     have z0 := OB5.out.free 0
     refine wpAnyH_ready (rs := [6]) (by kernel_rfl) (by simp) ?_
     refine (AllReadyH.cons rfl (fun K hK => ?_) AllReadyH.nil)
     go_simp
     refine hK.out _ _ ?_ (fun hHeld => ?_)
     ·exact (OI5.out.other (p := ⟨bx, 0, none⟩) HNE.out _).c4
     clear hK K
     try simp only [Act.put, List.setIfInBounds_toArray, List.set_cons_zero, List.set_cons_succ]
     refine wpAnyH_done (by kernel_rfl) ?_ _
     go_wp2_with fail
     go_roundw
     case rel =>
      refine ⟨j + 1, HLT.out, by go_num, .slice p5 (vs.length + 1) c5, vs ++ [(A.told k, .slice pk nk ck)], ?_, ?_, ?_, ?_, ?_, HBX.out⟩
      ·exact OB5.out.set 0 _
      ·rw [List.map_append, HVS.out, List.append_assoc, HTK.out]; rfl
      ·rw [reccells_snoc, List.length_append, List.length_singleton]
       exact ownsRow_keptO ROW5.out ((Kept.refl [bx] w5).setCell (p := ⟨bx, 0, none⟩) (Or.inl (by simp)) _) OB5.out (by decide)
      ·intro x hx
       rcases List.mem_append.1 hx with hx | hx
       ·exact HVR.out x hx
       ·have : x = (A.told k, .slice pk nk ck) := by simpa using hx
        subst this; exact HNEW.out
      ·exact K5.out.setCell (p := ⟨bx, 0, none⟩) (Or.inr HBX.out) _
     case measure => (have h := HLT.out; simp [intOf]; omega)
    ·skip
     go_simp
     refine hK.out _ _ ?_ (fun hHeld => ?_)
     ·go_keep
     clear hK K
     try simp only [Act.put, List.setIfInBounds_toArray, List.set_cons_zero, List.set_cons_succ]
     have b4 := (OB3.out.alloc (.cells #[.int .i64 k, .int .u32 A.id, .string (bs A.name), .int .i64 A.size, .slice pk nk ck] 102)).cell 0 (by simp)
     simp only [List.getElem_toArray, List.getElem_cons_zero] at b4
     refine wpAnyH_ready (rs := [0]) (by kernel_rfl) (by simp) ?_
     refine (AllReadyH.cons rfl (fun K hK => ?_) AllReadyH.nil)
     go_simp
     refine hK.out _ _ ?_ (fun hHeld => ?_)
     ·exact (OI3.out.alloc _).c4
     clear hK K
     try simp only [Act.put, List.setIfInBounds_toArray, List.set_cons_zero, List.set_cons_succ]
     have hsrc := Own.new w3 #[.int .i64 k, .int .u32 A.id, .string (bs A.name), .int .i64 A.size, .slice pk nk ck] 102
     obtain ⟨v5, w5, hrun, hrow5, hgrow5, _, _⟩ := run_append_own_at (P := Tryz.prog) (w3.alloc (.cells #[.int .i64 k, .int .u32 A.id, .string (bs A.name), .int .i64 A.size, .slice pk nk ck] 102)) w0.heap.size 92 92 102 i0 _ 5 64 Tryz.underlying92 hi0 hz0 hz1 hz2 rfl (by decide) _ vs.length (reccells vs) (World.ownsRow.alloc ROW3.out _) ⟨w3.heap.size, 0, none⟩ 1 1 [.int .i64 k, .int .u32 A.id, .string (bs A.name), .int .i64 A.size, .slice pk nk ck] rfl (fun q u hq => by
      have hq5 := (List.getElem?_eq_some_iff.1 hq).1
      rw [Go.WideShapes.add_plain, Nat.zero_add, hsrc.cell q (by simpa using hq5)]
      rw [← hq]; simp [List.getElem?_eq_getElem hq5]) (by intro u hu; simp at hu; rcases hu with rfl | rfl | rfl | rfl | rfl <;> rfl) (by have := HVL.out; unfold maxLen; omega) (by have := HVL.out; omega) (by have := K3.out.size; simp; omega)
     obtain ⟨p5, c5, rfl⟩ := own_shape hrow5
     obtain ⟨T, hT⟩ : ∃ T : List Nat, T = ((Value.slice pv vs.length cv).ownBlock).toList := ⟨_, rfl⟩
     have hTb : bx ∉ T := fun hb => by
      rw [hT, Option.mem_toList] at hb
      exact own_row_ne ROW3.out OB3.out (by decide) hb
     have hTi : wr.heap.size ∉ T := fun hb => by
      rw [hT, Option.mem_toList] at hb
      exact own_row_ne ROW3.out OI3.out (by decide) hb
     have kT5 : Kept T _ w5 := (Kept.refl T _).grown hgrow5 (fun q hq => Or.inl (by rw [hT, Option.mem_toList]; exact hq))
     have OB5 := Lib.hid (kT5.own (OB3.out.alloc _) hTb)
     have OI5 := Lib.hid (kT5.own (OI3.out.alloc _) hTi)
     have K5 := Lib.hid ((K3.out.alloc _).grown hgrow5 (fun q hq => Or.inr (World.ownsRow.lt ROW3.out q hq).1))
     have ROW5 := Lib.hid hrow5
     have HRUN := Lib.hid hrun
     clear hrow5 hgrow5 hT hTb hTi kT5 hsrc hrun
     refine wpAnyH_ready (rs := [5]) (by kernel_rfl) (by simp) ?_
     refine (AllReadyH.cons rfl (fun K hK => ?_) AllReadyH.nil)
     refine step_append_runJ rfl _ _ 92 92 rfl _ _ (by simp [Act.eval, Act.put]) (by simp [Act.eval, Act.put]) HRUN.out ?_
     refine hK.out _ _ ?_ (fun hHeld => ?_)
     ·exact OI5.out.c4
     clear hK K
     try simp only [Act.put, List.setIfInBounds_toArray, List.set_cons_zero, List.set_cons_succ]
     have b0 := OB5.out.cell 0 (by simp)
     simp only [List.getElem_toArray, List.getElem_cons_zero] at b0
     have z0 := OB5.out.free 0
     refine wpAnyH_ready (rs := [6]) (by kernel_rfl) (by simp) ?_
     refine (AllReadyH.cons rfl (fun K hK => ?_) AllReadyH.nil)
     go_simp
     refine hK.out _ _ ?_ (fun hHeld => ?_)
     ·exact (OI5.out.other (p := ⟨bx, 0, none⟩) HNE.out _).c4
     clear hK K
     try simp only [Act.put, List.setIfInBounds_toArray, List.set_cons_zero, List.set_cons_succ]
     refine wpAnyH_done (by kernel_rfl) ?_ _
     go_wp2_with fail
     go_roundw
     case rel =>
      refine ⟨j + 1, HLT.out, by go_num, .slice p5 (vs.length + 1) c5, vs ++ [(A.told k, .slice pk nk ck)], ?_, ?_, ?_, ?_, ?_, HBX.out⟩
      ·exact OB5.out.set 0 _
      ·rw [List.map_append, HVS.out, List.append_assoc, HTK.out]; rfl
      ·rw [reccells_snoc, List.length_append, List.length_singleton]
       exact ownsRow_keptO ROW5.out ((Kept.refl [bx] w5).setCell (p := ⟨bx, 0, none⟩) (Or.inl (by simp)) _) OB5.out (by decide)
      ·intro x hx
       rcases List.mem_append.1 hx with hx | hx
       ·exact HVR.out x hx
       ·have : x = (A.told k, .slice pk nk ck) := by simpa using hx
        subst this; exact HNEW.out
      ·exact K5.out.setCell (p := ⟨bx, 0, none⟩) (Or.inr HBX.out) _
     case measure => (have h := HLT.out; simp [intOf]; omega)
  ·obtain rfl : j = l.length := by omega
   rw [List.take_length] at hR
   have HRF := Lib.hid hR
   have i1 : ¬ (l.length : Int) < l.length := by omega
   clear hR
   go_wp2_with fail
   refine bodyPost_end (results_none rfl _ _ _) rfl ?_
   exact ⟨rfl, HRF.out⟩
def RecsSays (c : JCat) (w : World) (e : Ending) (w' : World) : Prop := ∃ u, e = .returned u ∧ RecsIn w' u (catR c) 0 w'.heap.size ∧ Kept [] w w'
set_option maxRecDepth 100000 in
set_option maxHeartbeats 2000000 in
theorem zrecords (v : Value) (c : JCat) (w : World) (h : CatIn w v c) (hlen : c.boxes.length + c.mans.length + c.names.length ≤ 100000) :
  Calls Tryz.prog 110 #[v] w (RecsSays c w) := by
 obtain ⟨vb, vm, vn, rfl, hb, hm, hn, _⟩ := h
 obtain ⟨p1, c1, e1⟩ := hb.shape
 obtain ⟨p2, c2, e2⟩ := hm.shape
 obtain ⟨p3, c3, e3⟩ := hn.shape
 obtain ⟨W1, hW1⟩ : ∃ W1, W1 = w.alloc (.cells #[.int .u32 c.nextBox, .int .u32 c.nextMan, vb, vm, vn] 52) := ⟨_, rfl⟩
 have k1 : Kept [] w W1 := by rw [hW1]; exact (Kept.refl _ _).alloc _
 have HB : Hid (∀ W L, RecsAt W1 W (w.heap.size + 1) L → L.length = 0 → Calls Tryz.prog 181 #[.int .i64 1, vb, .pointer (some ⟨w.heap.size + 1, 0, none⟩)] W fun e w' => e = .returned (.tuple #[]) ∧ RecsAt W1 w' (w.heap.size + 1) (L ++ c.boxes.map (·.told 1))) := Lib.hid (fun W L hA hL => zadd 1 vb _ L _ W1 W (hb.kept0 k1) hA (by omega) (by decide))
 have HM : Hid (∀ W L, RecsAt W1 W (w.heap.size + 1) L → L.length = c.boxes.length → Calls Tryz.prog 181 #[.int .i64 2, vm, .pointer (some ⟨w.heap.size + 1, 0, none⟩)] W fun e w' => e = .returned (.tuple #[]) ∧ RecsAt W1 w' (w.heap.size + 1) (L ++ c.mans.map (·.told 2))) := Lib.hid (fun W L hA hL => zadd 2 vm _ L _ W1 W (hm.kept0 k1) hA (by omega) (by decide))
 have HN : Hid (∀ W L, RecsAt W1 W (w.heap.size + 1) L → L.length = c.boxes.length + c.mans.length → Calls Tryz.prog 181 #[.int .i64 3, vn, .pointer (some ⟨w.heap.size + 1, 0, none⟩)] W fun e w' => e = .returned (.tuple #[]) ∧ RecsAt W1 w' (w.heap.size + 1) (L ++ c.names.map (·.told 3))) := Lib.hid (fun W L hA hL => zadd 3 vn _ L _ W1 W (hn.kept0 k1) hA (by omega) (by decide))
 subst e1 e2 e3
 have oA : Own W1 w.heap.size #[.int .u32 c.nextBox, .int .u32 c.nextMan, .slice p1 c.boxes.length c1, .slice p2 c.mans.length c2, .slice p3 c.names.length c3] 52 := by rw [hW1]; exact Own.new _ _ _
 have hs1 : W1.heap.size = w.heap.size + 1 := by rw [hW1]; simp
 have oB : Own (W1.alloc (.cells #[.slice none 0 0] 92)) (w.heap.size + 1) #[.slice none 0 0] 92 := by rw [← hs1]; exact Own.new _ _ _
 have hA0 : RecsAt W1 (W1.alloc (.cells #[.slice none 0 0] 92)) (w.heap.size + 1) [] := ⟨.slice none 0 0, [], oB, rfl, World.ownsRow_nil _ _ _ _, fun x hx => (by cases hx), (Kept.refl _ _).alloc _, by omega⟩
 rw [hW1] at hA0
 have HCELL : Hid (∀ W, Kept [] W1 W → W.cell? ⟨w.heap.size, 2, none⟩ = some (.slice p1 c.boxes.length c1) ∧ W.cell? ⟨w.heap.size, 3, none⟩ = some (.slice p2 c.mans.length c2) ∧ W.cell? ⟨w.heap.size, 4, none⟩ = some (.slice p3 c.names.length c3)) := Lib.hid (fun W q => by
  obtain ⟨_, _, x2, x3, x4⟩ := (q.own oA (by simp)).k5
  exact ⟨x2, x3, x4⟩)
 rw [hW1] at HB HM HN HCELL k1
 have HA0 := Lib.hid hA0
 obtain ⟨x2, x3, x4⟩ := HCELL.out _ ((Kept.refl _ _).alloc (.cells #[.slice none 0 0] 92))
 have K1 := Lib.hid k1
 have HC : Hid ((([] ++ c.boxes.map (·.told 1)) ++ c.mans.map (·.told 2)) ++ c.names.map (·.told 3) = catR c) := Lib.hid (by unfold catR; simp)
 have HL1 : Hid (([] ++ c.boxes.map (·.told 1) : List JRec).length = c.boxes.length) := Lib.hid (by simp)
 have HL2 : Hid ((([] ++ c.boxes.map (·.told 1)) ++ c.mans.map (·.told 2) : List JRec).length = c.boxes.length + c.mans.length) := Lib.hid (by simp)
 clear oA oB hA0 hb hm hn hlen k1 hs1 hW1 W1
 go_enter Tryz.func110, Tryz.ntmps110
 go_wp2_with fail
 refine (HB.out _ _ HA0.out rfl).mono ?_; rintro e w2 ⟨rfl, hA2⟩
 have HA2 := Lib.hid hA2
 obtain ⟨u2, ou2, _, kk2⟩ := hA2.val
 obtain ⟨x2, x3, x4⟩ := HCELL.out _ kk2
 clear hA2 ou2 kk2
 go_wp2_with fail
 refine (HM.out _ _ HA2.out HL1.out).mono ?_; rintro e w3 ⟨rfl, hA3⟩
 have HA3 := Lib.hid hA3
 obtain ⟨u3, ou3, _, kk3⟩ := hA3.val
 obtain ⟨x2, x3, x4⟩ := HCELL.out _ kk3
 clear hA3 ou3 kk3
 go_wp2_with fail
 refine (HN.out _ _ HA3.out HL2.out).mono ?_; rintro e w4 ⟨rfl, hA4⟩
 rw [HC.out] at hA4
 obtain ⟨u4, ou4, hin4, kk4⟩ := hA4.val
 have HI4 := Lib.hid hin4
 have K4 := Lib.hid (K1.out.trans kk4)
 have b4 := ou4.cell 0 (by simp)
 simp only [List.getElem_toArray, List.getElem_cons_zero] at b4
 clear hA4 hin4 kk4
 go_wp2_with fail
 go_ret
 exact ⟨_, rfl, HI4.out, K4.out⟩
end Go.Proofs.YtdkimcnlhmhpgaaGreat
