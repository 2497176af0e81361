/- Walks of layer 9 (disk): what waits is settled. -/
import Derived.Test.YtdnbddhjdokbfaaG15
namespace Go.Proofs.Ytdnbddhjdokbfaa
open Go.RowKit Go.Maps
set_option linter.unusedVariables false
set_option linter.unusedSimpArgs false

/-- what stands when the first k writes are settled. -/
def sk (st : List (List UInt8)) (ws : List (Nat × List UInt8)) (keep : Nat → Bool) : Nat → List (List UInt8)
  | 0 => st
  | k + 1 => if keep k then (sk st ws keep k).set (ws.getD k (0, [])).1 (ws.getD k (0, [])).2 else sk st ws keep k
theorem sk_len (st : List (List UInt8)) (ws : List (Nat × List UInt8)) (keep : Nat → Bool) (k : Nat) : (sk st ws keep k).length = st.length := by
  induction k with
  | zero => rfl
  | succ k ih => unfold sk; split
                 · rw [List.length_set, ih]
                 · exact ih
theorem sk_succ (st : List (List UInt8)) (ws : List (Nat × List UInt8)) (keep : Nat → Bool) (k : Nat) (h : k < ws.length) : sk st ws keep (k + 1) = if keep k then (sk st ws keep k).set ws[k].1 ws[k].2 else sk st ws keep k := by
  have e : ws.getD k (0, []) = ws[k] := by rw [List.getD_eq_getElem?_getD, List.getElem?_eq_getElem h]; rfl
  rw [sk, e]
theorem scells_set (l : List (List UInt8)) (i : Nat) (s : List UInt8) : (scells l).setIfInBounds i (.string (bs s)) = scells (l.set i s) := by
  unfold scells; simp [List.map_set]
theorem wcells_get (l : List (Nat × List UInt8)) (i : Nat) (h : i < l.length) : (wcells l)[i * 2]? = some (.int .i64 (l[i].1 : Int)) ∧ (wcells l)[i * 2 + 1]? = some (.string (bs l[i].2)) := by
  induction l generalizing i with
  | nil => simp at h
  | cons a l ih =>
    cases i with
    | zero => exact ⟨rfl, rfl⟩
    | succ i =>
      have e : wcells (a :: l) = Value.int .i64 (a.1 : Int) :: Value.string (bs a.2) :: wcells l := rfl
      rw [e]
      have := ih i (by simpa using h)
      have e1 : (i + 1) * 2 = i * 2 + 1 + 1 := by omega
      have e2 : (i + 1) * 2 + 1 = i * 2 + 1 + 1 + 1 := by omega
      rw [e1, List.getElem?_cons_succ, List.getElem?_cons_succ, List.getElem?_cons_succ, List.getElem?_cons_succ]
      simpa using this
def settleD (d : DK) (keep : Nat → Bool) : DK := ⟨sk d.stand d.waits keep d.waits.length, [], d.fuse, d.ops, d.down⟩
theorem lt_of_cell {w : World} {g j : Nat} {v : Value} (h : w.cell? ⟨g, j, none⟩ = some v) : g < w.heap.size := World.block_lt_of_cell? _ _ h

set_option maxRecDepth 100000 in
set_option maxHeartbeats 2000000 in
theorem dSettleAll (b sb mb lo : Nat) (d : DK)  (w : World) (h : DiskAt w b sb mb lo d) (hfine : ∀ x ∈ d.waits, x.1 < d.stand.length) (hwl : d.waits.length ≤ 10000)  :
    Calls Try.prog 44 #[.pointer (some ⟨b, 0, none⟩), .func (.func 45) #[] #[]] w fun e w' => e = .returned (.tuple #[]) ∧ DiskAt w' b sb mb lo (settleD d (fun _ => true)) ∧ DKept b sb mb lo w w' := by
  obtain ⟨wv, n, o, os, hw, hm, hn, g2, g3, g4, g5, g6, g7, g8, g9, g10, g11⟩ := h
  obtain ⟨p, c, rfl⟩ := own_shape hw
  obtain ⟨c0, c1, c2, c3, c4, c5⟩ := o.c6
  obtain ⟨st, ws, fu, op, dn⟩ := d
  simp only at *
  go_enter Try.func44, Try.ntmps44
  go_wp2_with fail
  go_loopw [11] (fun i wr => ∃ k : Nat, k ≤ ws.length ∧ i = .int .i64 k ∧ Own wr sb (scells (sk st ws (fun _ => true) k)) 9 ∧ Kept [sb] w wr) (fun i _ => ws.length - (intOf i).toNat)
  case atStart => exact ⟨0, by omega, rfl, os, Kept.refl _ _⟩
  case round =>
    obtain ⟨k, hk, rfl, os2, hK⟩ := hrel
    have o2 := hK.own o (by simp; omega)
    have hw2 := ownsRow_kept hw hK (by simp; omega)
    by_cases hlt : k < ws.length
    · obtain ⟨gw, rfl, hgw⟩ : ∃ gw, p = some ⟨gw, 0, none⟩ ∧ lo ≤ gw := by
        rcases hw2.2 with ⟨e1, e2⟩ | ⟨g', cap, cur, e1, hge, _⟩
        · omega
        · injection e1 with e1
          exact ⟨g', e1, hge⟩
      obtain ⟨q1, q2⟩ := wcells_get ws k hlt
      have w1c := World.ownsRow.cells hw2 rfl (k * 2) _ q1
      have w2c := World.ownsRow.cells hw2 rfl (k * 2 + 1) _ q2
      rw [Go.WideShapes.add_plain, Nat.zero_add] at w1c w2c
      have hat : ws[k].1 < st.length := hfine _ (List.getElem_mem _)
      have hsl : (sk st ws (fun _ => true) k).length = st.length := sk_len _ _ _ _
      have hstep := sk_succ st ws (fun _ => true) k hlt
      obtain ⟨d0, d1, d2, d3, d4, d5⟩ := o2.c6
      have hgs : gw < wr.heap.size := lt_of_cell w1c
      have hsbl := os2.lt
      have HST := Lib.hid hstep
      have HLT := Lib.hid hlt
      have HSL := Lib.hid hsl
      clear hstep hsl q1 q2 c0 c1 c2 c3 c4 c5
      generalize ws[k].1 = at1 at *
      generalize ws[k].2 = dt at *
      have i1 : (at1 : Int) < st.length := by omega
      have ot := Own.new wr #[.int .i64 (at1 : Int), .string (bs dt)] 97
      have os3 := os2.alloc (.cells #[.int .i64 (at1 : Int), .string (bs dt)] 97)
      have o3 := o2.alloc (.cells #[.int .i64 (at1 : Int), .string (bs dt)] 97)
      have hK3 := hK.alloc (.cells #[.int .i64 (at1 : Int), .string (bs dt)] 97)
      obtain ⟨e0, e1, e2, e3, e4, e5⟩ := o3.c6
      obtain ⟨f0, f1⟩ := ot.c2
      have hsize : at1 < (scells (sk st ws (fun _ => true) k)).size := by simp [scells, HSL.out]; exact hat
      obtain ⟨v0, s0⟩ : ∃ v0, (wr.alloc (.cells #[.int .i64 (at1 : Int), .string (bs dt)] 97)).cell? ⟨sb, at1, none⟩ = some v0 := ⟨_, os3.cell at1 hsize⟩
      have zs := os3.free at1
      go_wp2_with fail
      refine (dAll _ _).mono ?_; rintro e w' ⟨rfl, rfl⟩
      go_wp2_with fail
      go_region
      have hfin : Own ((wr.setCell ⟨sb, at1, none⟩ (.string (bs dt))).alloc (.cells #[.int .i64 (at1 : Int), .string (bs dt)] 97)).drew sb (scells (sk st ws (fun _ => true) (k + 1))) 9 := by
        rw [HST.out]
        simp only [if_true]
        rw [← scells_set]
        exact ((os2.set at1 _).alloc _).drew
      have hkf := ((hK.setCell (p := ⟨sb, at1, none⟩) (Or.inl (by simp)) (.string (bs dt))).alloc (.cells #[.int .i64 (at1 : Int), .string (bs dt)] 97)).drew
      go_wp2_with fail
      go_roundw
      case rel => exact ⟨k + 1, HLT.out, by go_num, hfin, hkf⟩
      case measure => (have hh := HLT.out; simp [intOf]; omega)
    · obtain rfl : k = ws.length := by omega
      obtain ⟨d0, d1, d2, d3, d4, d5⟩ := o2.c6
      have z2 := o2.z6
      have hm2 := hm.kept hK (by simp; omega)
      have hm3 := hm2.other (p := ⟨b, 1, none⟩) (by show mb ≠ b; omega) (.slice none 0 0)
      have os3 := os2.other (p := ⟨b, 1, none⟩) (by show sb ≠ b; omega) (.slice none 0 0)
      have o3 := o2.set 1 (.slice none 0 0)
      have hsx : (wr.setCell ⟨b, 1, none⟩ (.slice none 0 0)).heap.size = wr.heap.size := by simp [World.setCell]
      have hk3 := (hK.mono (T := [sb, b, mb]) (by simp)).setCell (p := ⟨b, 1, none⟩) (Or.inl (by simp)) (.slice none 0 0)
      have hlen : (sk st ws (fun _ => true) ws.length).length = st.length := sk_len _ _ _ _
      obtain ⟨w7, hrun7, hm7, hk7⟩ := hm3.clears 0
      go_wp2_with fail
      go_end0
      have hsz7 := hk7.size
      have hszK := hK.size
      refine ⟨rfl, ⟨.slice none 0 0, 0, ?_, hk7.own os3 (by simp; omega), World.ownsRow_nil _ _ _ _, hm7, Nat.le_refl _, g2, g3, g4, g5, by omega, ?_, ?_, g9, g10, g11⟩, ?_⟩
      · have := hk7.own o3 (by simp; omega)
        show Own w7 b #[.slice (some ⟨sb, 0, none⟩) (sk st ws (fun _ => true) ws.length).length (sk st ws (fun _ => true) ws.length).length, _, _, _, _, _] _
        rw [hlen]; exact this
      · show 1 ≤ (sk st ws (fun _ => true) ws.length).length
        rw [hlen]; exact g7
      · show (sk st ws (fun _ => true) ws.length).length ≤ 8192
        rw [hlen]; exact g8
      · exact DKept.of (hk3.trans (hk7.mono (by simp))) (fun x hx => by
          simp at hx
          rcases hx with rfl | rfl | rfl
          · exact Or.inr (Or.inl rfl)
          · exact Or.inl rfl
          · exact Or.inr (Or.inr (Or.inl rfl)))

set_option maxRecDepth 100000 in
set_option maxHeartbeats 2000000 in
theorem dSettleChosen (b sb mb lo : Nat) (d : DK) (v : Value) (keep : List Bool) (g lo1 hi1 : Nat) (w : World) (h : DiskAt w b sb mb lo d) (hfine : ∀ x ∈ d.waits, x.1 < d.stand.length) (hwl : d.waits.length ≤ 10000) (hg : Own w g #[v] 77) (hgsb : g ≠ sb) (hb : BoolsIn w v keep lo1 hi1) (hbs : sb < lo1 ∨ hi1 ≤ sb) (hkl : keep.length ≤ maxLen) :
    Calls Try.prog 44 #[.pointer (some ⟨b, 0, none⟩), .func (.func 66) #[] #[.pointer (some ⟨g, 0, none⟩)]] w fun e w' => e = .returned (.tuple #[]) ∧ DiskAt w' b sb mb lo (settleD d (kept keep)) ∧ DKept b sb mb lo w w' := by
  obtain ⟨wv, n, o, os, hw, hm, hn, g2, g3, g4, g5, g6, g7, g8, g9, g10, g11⟩ := h
  obtain ⟨p, c, rfl⟩ := own_shape hw
  obtain ⟨c0, c1, c2, c3, c4, c5⟩ := o.c6
  obtain ⟨st, ws, fu, op, dn⟩ := d
  simp only at *
  go_enter Try.func44, Try.ntmps44
  go_wp2_with fail
  go_loopw [11] (fun i wr => ∃ k : Nat, k ≤ ws.length ∧ i = .int .i64 k ∧ Own wr sb (scells (sk st ws (kept keep) k)) 9 ∧ Kept [sb] w wr) (fun i _ => ws.length - (intOf i).toNat)
  case atStart => exact ⟨0, by omega, rfl, os, Kept.refl _ _⟩
  case round =>
    obtain ⟨k, hk, rfl, os2, hK⟩ := hrel
    have o2 := hK.own o (by simp; omega)
    have hw2 := ownsRow_kept hw hK (by simp; omega)
    by_cases hlt : k < ws.length
    · obtain ⟨gw, rfl, hgw⟩ : ∃ gw, p = some ⟨gw, 0, none⟩ ∧ lo ≤ gw := by
        rcases hw2.2 with ⟨e1, e2⟩ | ⟨g', cap, cur, e1, hge, _⟩
        · omega
        · injection e1 with e1
          exact ⟨g', e1, hge⟩
      obtain ⟨q1, q2⟩ := wcells_get ws k hlt
      have w1c := World.ownsRow.cells hw2 rfl (k * 2) _ q1
      have w2c := World.ownsRow.cells hw2 rfl (k * 2 + 1) _ q2
      rw [Go.WideShapes.add_plain, Nat.zero_add] at w1c w2c
      have hat : ws[k].1 < st.length := hfine _ (List.getElem_mem _)
      have hsl : (sk st ws (kept keep) k).length = st.length := sk_len _ _ _ _
      have hstep := sk_succ st ws (kept keep) k hlt
      obtain ⟨d0, d1, d2, d3, d4, d5⟩ := o2.c6
      have hgs : gw < wr.heap.size := lt_of_cell w1c
      have hsbl := os2.lt
      have HST := Lib.hid hstep
      have HLT := Lib.hid hlt
      have HSL := Lib.hid hsl
      clear hstep hsl q1 q2 c0 c1 c2 c3 c4 c5
      generalize ws[k].1 = at1 at *
      generalize ws[k].2 = dt at *
      have i1 : (at1 : Int) < st.length := by omega
      have ot := Own.new wr #[.int .i64 (at1 : Int), .string (bs dt)] 97
      have os3 := os2.alloc (.cells #[.int .i64 (at1 : Int), .string (bs dt)] 97)
      have o3 := o2.alloc (.cells #[.int .i64 (at1 : Int), .string (bs dt)] 97)
      have hK3 := hK.alloc (.cells #[.int .i64 (at1 : Int), .string (bs dt)] 97)
      obtain ⟨e0, e1, e2, e3, e4, e5⟩ := o3.c6
      obtain ⟨f0, f1⟩ := ot.c2
      have hsize : at1 < (scells (sk st ws (kept keep) k)).size := by simp [scells, HSL.out]; exact hat
      obtain ⟨v0, s0⟩ : ∃ v0, (wr.alloc (.cells #[.int .i64 (at1 : Int), .string (bs dt)] 97)).cell? ⟨sb, at1, none⟩ = some v0 := ⟨_, os3.cell at1 hsize⟩
      have zs := os3.free at1
      have hkb : k ≤ 1000000 := by omega
      have hch : ∀ (k : Nat) (W : World), Kept [sb] w W → k ≤ 1000000 → Calls Try.prog 66 #[.int .i64 k, .pointer (some ⟨g, 0, none⟩)] W fun e w' => e = .returned (.bool (kept keep k)) ∧ W = w' := fun k W hk hk2 => dChosen g k v keep lo1 hi1 W (hk.own hg (by simpa using hgsb)) (hb.kept hk (fun x hx => by simp at hx; omega)) hkl hk2
      go_wp2_with fail
      refine (hch k _ hK3 hkb).mono ?_; rintro e w' ⟨rfl, rfl⟩
      have hkfin := HST.out
      cases hkp : kept keep k
      · rw [hkp] at hkfin
        simp only [Bool.false_eq_true, if_false] at hkfin
        have hfin : Own (wr.alloc (.cells #[.int .i64 (at1 : Int), .string (bs dt)] 97)) sb (scells (sk st ws (kept keep) (k + 1))) 9 := by
          rw [hkfin]; exact os3
        have HF := Lib.hid hfin
        clear hkfin hkp hfin
        go_wp2_with fail
        go_roundw
        case rel => exact ⟨k + 1, HLT.out, by go_num, HF.out, hK3⟩
        case measure => (have hh := HLT.out; simp [intOf]; omega)
      · rw [hkp] at hkfin
        simp only [if_true] at hkfin
        have hfin : Own ((wr.setCell ⟨sb, at1, none⟩ (.string (bs dt))).alloc (.cells #[.int .i64 (at1 : Int), .string (bs dt)] 97)).drew sb (scells (sk st ws (kept keep) (k + 1))) 9 := by
          rw [hkfin, ← scells_set]
          exact ((os2.set at1 _).alloc _).drew
        have hkf := ((hK.setCell (p := ⟨sb, at1, none⟩) (Or.inl (by simp)) (.string (bs dt))).alloc (.cells #[.int .i64 (at1 : Int), .string (bs dt)] 97)).drew
        have HF := Lib.hid hfin
        clear hkfin hkp hfin
        go_wp2_with fail
        go_region
        go_wp2_with fail
        go_roundw
        case rel => exact ⟨k + 1, HLT.out, by go_num, HF.out, hkf⟩
        case measure => (have hh := HLT.out; simp [intOf]; omega)
    · obtain rfl : k = ws.length := by omega
      obtain ⟨d0, d1, d2, d3, d4, d5⟩ := o2.c6
      have z2 := o2.z6
      have hm2 := hm.kept hK (by simp; omega)
      have hm3 := hm2.other (p := ⟨b, 1, none⟩) (by show mb ≠ b; omega) (.slice none 0 0)
      have os3 := os2.other (p := ⟨b, 1, none⟩) (by show sb ≠ b; omega) (.slice none 0 0)
      have o3 := o2.set 1 (.slice none 0 0)
      have hsx : (wr.setCell ⟨b, 1, none⟩ (.slice none 0 0)).heap.size = wr.heap.size := by simp [World.setCell]
      have hk3 := (hK.mono (T := [sb, b, mb]) (by simp)).setCell (p := ⟨b, 1, none⟩) (Or.inl (by simp)) (.slice none 0 0)
      have hlen : (sk st ws (kept keep) ws.length).length = st.length := sk_len _ _ _ _
      obtain ⟨w7, hrun7, hm7, hk7⟩ := hm3.clears 0
      go_wp2_with fail
      go_end0
      have hsz7 := hk7.size
      have hszK := hK.size
      refine ⟨rfl, ⟨.slice none 0 0, 0, ?_, hk7.own os3 (by simp; omega), World.ownsRow_nil _ _ _ _, hm7, Nat.le_refl _, g2, g3, g4, g5, by omega, ?_, ?_, g9, g10, g11⟩, ?_⟩
      · have := hk7.own o3 (by simp; omega)
        show Own w7 b #[.slice (some ⟨sb, 0, none⟩) (sk st ws (kept keep) ws.length).length (sk st ws (kept keep) ws.length).length, _, _, _, _, _] _
        rw [hlen]; exact this
      · show 1 ≤ (sk st ws (kept keep) ws.length).length
        rw [hlen]; exact g7
      · show (sk st ws (kept keep) ws.length).length ≤ 8192
        rw [hlen]; exact g8
      · exact DKept.of (hk3.trans (hk7.mono (by simp))) (fun x hx => by
          simp at hx
          rcases hx with rfl | rfl | rfl
          · exact Or.inr (Or.inl rfl)
          · exact Or.inl rfl
          · exact Or.inr (Or.inr (Or.inl rfl)))
end Go.Proofs.Ytdnbddhjdokbfaa
