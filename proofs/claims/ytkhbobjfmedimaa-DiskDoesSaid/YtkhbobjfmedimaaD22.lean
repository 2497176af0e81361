/- Walks of the document's disk (layer 9): what waits is settled. -/
import Derived.Test.YtkhbobjfmedimaaD21
namespace Go.Proofs.Ytkhbobjfmedimaa
open Go.RowKit Go.Maps
set_option linter.unusedVariables false
set_option linter.unusedSimpArgs false

theorem svals_set (l : List (List UInt8)) (i : Nat) (s : List UInt8) : (svals l).set i (.string (bs s)) = svals (l.set i s) := by
  unfold svals; simp [List.map_set]
set_option maxRecDepth 100000 in
set_option maxHeartbeats 2000000 in
theorem qStandAll (r lo : Nat) (d : DK) (v : Value) (w : World) (h : RAt w r lo d) (hfine : ∀ x ∈ d.waits, x.1 < d.stand.length) :
    Calls Try.prog 50 #[.pointer (some ⟨r, 0, none⟩), v, .bool true] w fun e w' => e = .returned (.tuple #[]) ∧ RAt w' r lo (settleD d (fun _ => true)) ∧ Kept [r] w w' := by
  obtain ⟨i0, q0, q1, q2, q3⟩ := infoStr
  obtain ⟨sv, wv, o⟩ := h.own
  obtain ⟨p, c, p', c', c0, c1, c2, c3, c4, hsr, hwr, h1, h2, h3, h4, h5⟩ := h.five
  have rlt := o.lt
  have hem := ownsRow_empty w w.heap.size 9 1 (Nat.le_refl _)
  have hsr2 := World.ownsRow.alloc hsr (.cells #[] 9)
  have r3 : 0 + d.stand.length ≤ maxLen := by unfold maxLen; omega
  have r4 : (0 + d.stand.length) * 16 ≤ 140737488355328 := by omega
  have hfin : ∀ W v, Kept [r] w W → W.ownsRow w.heap.size 9 1 v d.stand.length (svals (sk d.stand d.waits (fun _ => true) d.waits.length)) → (∀ v0 v1, Own w r #[v0, v1, .int .i64 d.fuse, .int .i64 d.ops, .bool d.down] 67 → Own W r #[v, .slice none 0 0, .int .i64 d.fuse, .int .i64 d.ops, .bool d.down] 67) → RAt W r lo (settleD d (fun _ => true)) := by
    intro W v k hv ho2
    obtain ⟨sv, wv, o, hs, hw, h1, h2, h3, h4, h5, h6, h7⟩ := h
    refine ⟨v, .slice none 0 0, ho2 _ _ o, ?_, World.ownsRow_nil _ _ _ _, Nat.le_trans h1 k.size, h2, ?_, ?_, h5, h6, Nat.zero_le _⟩
    · show W.ownsRow lo _ 1 v (sk d.stand d.waits (fun _ => true) d.waits.length).length (svals (sk d.stand d.waits (fun _ => true) d.waits.length))
      rw [sk_len]
      exact ownsRow_base hv h1
    · show 1 ≤ (sk d.stand d.waits (fun _ => true) d.waits.length).length
      rw [sk_len]; exact h3
    · show (sk d.stand d.waits (fun _ => true) d.waits.length).length ≤ 8192
      rw [sk_len]; exact h4
  have HFIN := Lib.hid hfin
  have HFINE := Lib.hid hfine
  have HW := Lib.hid hwr
  clear hfin hfine hwr h
  go_enter Try.func50, Try.ntmps50
  go_wp2_with (at_builtin; go_must (refine wpList_append_rows rfl (.tmp 8) (.tmp 12) 49 rfl w.heap.size lo 9 i0 (.string ⟨#[]⟩) 1 16 Try.underlying49 q0 q1 q2 q3 rfl (by decide) _ _ _ rfl hem _ _ _ rfl hsr2 (svals_one _) r3 r4 (by simp) ?_))
  intro v5 w5 o3 gr3 hat3
  have o3' : w5.ownsRow w.heap.size 9 1 v5 d.stand.length (svals d.stand) := by simpa using o3
  have k5 : Kept [] w w5 := ((Kept.refl [] w).alloc _).grown gr3 (fun g hg => by
    have : w.heap.size = g := by simpa [Value.ownBlock] using hg
    exact Or.inr (by omega))
  obtain ⟨g, cap, rfl, hg1, _, hg3, hg4, _⟩ := ownsRow_at o3' (by omega)
  clear gr3 hat3 hem hsr2 o3
  go_wp2_with fail
  go_loopw [7] (fun i wr => ∃ k : Nat, k ≤ d.waits.length ∧ i = .int .i64 k ∧ wr.ownsRow w.heap.size 9 1 (.slice (some ⟨g, 0, none⟩) d.stand.length cap) d.stand.length (svals (sk d.stand d.waits (fun _ => true) k)) ∧ Kept [] w wr) (fun i _ => d.waits.length - (intOf i).toNat)
  case atStart => exact ⟨0, by omega, rfl, o3', k5⟩
  case round =>
    obtain ⟨k, hk, rfl, hrow, hK⟩ := hrel
    have or_ := hK.own o (by simp)
    obtain ⟨x0, x1, x2, x3, x4⟩ := or_.c5
    have y0 : wr.cell? ⟨r, 0, none⟩ = some (.slice p d.stand.length c) := by rw [hK.cell (by exact rlt) (by simp)]; exact c0
    have y1 : wr.cell? ⟨r, 1, none⟩ = some (.slice p' d.waits.length c') := by rw [hK.cell (by exact rlt) (by simp)]; exact c1
    clear x0 x1 x2 x3 x4
    by_cases hlt : k < d.waits.length
    · obtain ⟨at1, dt, hst, hq1, hq2, hat⟩ : ∃ (at1 : Nat) (dt : List UInt8), sk d.stand d.waits (fun _ => true) (k + 1) = (if (fun _ => true) k then (sk d.stand d.waits (fun _ => true) k).set at1 dt else sk d.stand d.waits (fun _ => true) k) ∧ (wcells d.waits)[k * 2]? = some (.int .i64 (at1 : Int)) ∧ (wcells d.waits)[k * 2 + 1]? = some (.string (bs dt)) ∧ at1 < d.stand.length :=
        ⟨_, _, sk_succ d.stand d.waits (fun _ => true) k hlt, (wcells_get d.waits k hlt).1, (wcells_get d.waits k hlt).2, HFINE.out _ (List.getElem_mem _)⟩
      obtain ⟨gw, cw, ew, _, hgw, _, _, hwc⟩ := ownsRow_at HW.out (by omega)
      have w1 := hwc _ _ hq1
      have w2 := hwc _ _ hq2
      rw [← hK.cell (a := ⟨gw, k * 2, none⟩) (by exact hgw) (by simp)] at w1
      rw [← hK.cell (a := ⟨gw, k * 2 + 1, none⟩) (by exact hgw) (by simp)] at w2
      injection ew with ew _ ecw
      subst ew ecw
      have i2 : (k : Int) < d.waits.length := by omega
      have i3 : (at1 : Int) < d.stand.length := by omega
      have HLT := Lib.hid hlt
      have v0 : ∃ u, wr.cell? ⟨g, at1, none⟩ = some u := by
        have hl : at1 < (svals (sk d.stand d.waits (fun _ => true) k)).length := by rw [svals_len, sk_len]; exact hat
        have := World.ownsRow.cells hrow (g := g) rfl at1 _ (List.getElem?_eq_getElem hl)
        rw [Go.WideShapes.add_plain, Nat.zero_add] at this
        exact ⟨_, this⟩
      obtain ⟨u0, v0⟩ := v0
      have z0 := World.ownsRow.frozenAt hrow at1
      have hstore := World.ownsRow.stored hrow at1 (.string (bs dt))
      rw [svals_set] at hstore
      have hkf := hK.setCell (p := ⟨g, at1, none⟩) (Or.inr hg1) (.string (bs dt))
      have HST := Lib.hid hst
      have HSTORE := Lib.hid hstore.1
      have HROW := Lib.hid hrow
      clear hq1 hq2 hwc hst hstore hrow c0 c1
      go_wp2_with fail
      go_region
      all_goals
        go_wp2_with fail
        go_roundw
        case rel => exact ⟨k + 1, HLT.out, by go_num, by rw [HST.out, if_pos trivial]; exact ownsRow_drew HSTORE.out, hkf.drew⟩
        case measure => (have hh := HLT.out; simp [intOf]; omega)
    · obtain rfl : k = d.waits.length := by omega
      have zr := or_.free 0
      have zr1 := or_.free 1
      have kk := ((hK.mono (T := [r]) (by simp)).setCell (p := ⟨r, 0, none⟩) (Or.inl (by simp)) (.slice (some ⟨g, 0, none⟩) d.stand.length cap)).setCell (p := ⟨r, 1, none⟩) (Or.inl (by simp)) (.slice none 0 0)
      have hne := own_row_ne hrow or_ (by decide)
      have hrow2 := ownsRow_other (ownsRow_other hrow (p := ⟨r, 0, none⟩) hne (.slice (some ⟨g, 0, none⟩) d.stand.length cap)) (p := ⟨r, 1, none⟩) hne (.slice none 0 0)
      have HR0 := Lib.hid (HFIN.out _ _ kk hrow2 (fun v0 v1 o => ((hK.own o (by simp)).set 0 _).set 1 _))
      clear hrow2 hrow hne
      go_wp2_with fail
      go_end0
      exact ⟨rfl, HR0.out, kk⟩
set_option maxRecDepth 100000 in
set_option maxHeartbeats 2000000 in
theorem qStandKeep (r lo : Nat) (d : DK) (v : Value) (keep : List Bool) (lo1 hi1 : Nat) (w : World) (h : RAt w r lo d) (hfine : ∀ x ∈ d.waits, x.1 < d.stand.length) (hb : BoolsIn w v keep lo1 hi1) :
    Calls Try.prog 50 #[.pointer (some ⟨r, 0, none⟩), v, .bool false] w fun e w' => e = .returned (.tuple #[]) ∧ RAt w' r lo (settleD d (kept keep)) ∧ Kept [r] w w' := by
  obtain ⟨pk, ck, rfl⟩ := hb.shape
  have hkl : (keep.length : Int) ≤ 9223372036854775807 := by have := hb.len; unfold maxLen at this; omega
  have HB := Lib.hid hb
  clear hb
  obtain ⟨i0, q0, q1, q2, q3⟩ := infoStr
  obtain ⟨sv, wv, o⟩ := h.own
  obtain ⟨p, c, p', c', c0, c1, c2, c3, c4, hsr, hwr, h1, h2, h3, h4, h5⟩ := h.five
  have rlt := o.lt
  have hem := ownsRow_empty w w.heap.size 9 1 (Nat.le_refl _)
  have hsr2 := World.ownsRow.alloc hsr (.cells #[] 9)
  have r3 : 0 + d.stand.length ≤ maxLen := by unfold maxLen; omega
  have r4 : (0 + d.stand.length) * 16 ≤ 140737488355328 := by omega
  have hfin : ∀ W v, Kept [r] w W → W.ownsRow w.heap.size 9 1 v d.stand.length (svals (sk d.stand d.waits (kept keep) d.waits.length)) → (∀ v0 v1, Own w r #[v0, v1, .int .i64 d.fuse, .int .i64 d.ops, .bool d.down] 67 → Own W r #[v, .slice none 0 0, .int .i64 d.fuse, .int .i64 d.ops, .bool d.down] 67) → RAt W r lo (settleD d (kept keep)) := by
    intro W v k hv ho2
    obtain ⟨sv, wv, o, hs, hw, h1, h2, h3, h4, h5, h6, h7⟩ := h
    refine ⟨v, .slice none 0 0, ho2 _ _ o, ?_, World.ownsRow_nil _ _ _ _, Nat.le_trans h1 k.size, h2, ?_, ?_, h5, h6, Nat.zero_le _⟩
    · show W.ownsRow lo _ 1 v (sk d.stand d.waits (kept keep) d.waits.length).length (svals (sk d.stand d.waits (kept keep) d.waits.length))
      rw [sk_len]
      exact ownsRow_base hv h1
    · show 1 ≤ (sk d.stand d.waits (kept keep) d.waits.length).length
      rw [sk_len]; exact h3
    · show (sk d.stand d.waits (kept keep) d.waits.length).length ≤ 8192
      rw [sk_len]; exact h4
  have HFIN := Lib.hid hfin
  have HFINE := Lib.hid hfine
  have HW := Lib.hid hwr
  clear hfin hfine hwr h
  go_enter Try.func50, Try.ntmps50
  go_wp2_with (at_builtin; go_must (refine wpList_append_rows rfl (.tmp 8) (.tmp 12) 49 rfl w.heap.size lo 9 i0 (.string ⟨#[]⟩) 1 16 Try.underlying49 q0 q1 q2 q3 rfl (by decide) _ _ _ rfl hem _ _ _ rfl hsr2 (svals_one _) r3 r4 (by simp) ?_))
  intro v5 w5 o3 gr3 hat3
  have o3' : w5.ownsRow w.heap.size 9 1 v5 d.stand.length (svals d.stand) := by simpa using o3
  have k5 : Kept [] w w5 := ((Kept.refl [] w).alloc _).grown gr3 (fun g hg => by
    have : w.heap.size = g := by simpa [Value.ownBlock] using hg
    exact Or.inr (by omega))
  obtain ⟨g, cap, rfl, hg1, _, hg3, hg4, _⟩ := ownsRow_at o3' (by omega)
  clear gr3 hat3 hem hsr2 o3
  go_wp2_with fail
  go_loopw [7] (fun i wr => ∃ k : Nat, k ≤ d.waits.length ∧ i = .int .i64 k ∧ wr.ownsRow w.heap.size 9 1 (.slice (some ⟨g, 0, none⟩) d.stand.length cap) d.stand.length (svals (sk d.stand d.waits (kept keep) k)) ∧ Kept [] w wr) (fun i _ => d.waits.length - (intOf i).toNat)
  case atStart => exact ⟨0, by omega, rfl, o3', k5⟩
  case round =>
    obtain ⟨k, hk, rfl, hrow, hK⟩ := hrel
    have or_ := hK.own o (by simp)
    obtain ⟨x0, x1, x2, x3, x4⟩ := or_.c5
    have y0 : wr.cell? ⟨r, 0, none⟩ = some (.slice p d.stand.length c) := by rw [hK.cell (by exact rlt) (by simp)]; exact c0
    have y1 : wr.cell? ⟨r, 1, none⟩ = some (.slice p' d.waits.length c') := by rw [hK.cell (by exact rlt) (by simp)]; exact c1
    clear x0 x1 x2 x3 x4
    by_cases hlt : k < d.waits.length
    · obtain ⟨at1, dt, hst, hq1, hq2, hat⟩ : ∃ (at1 : Nat) (dt : List UInt8), sk d.stand d.waits (kept keep) (k + 1) = (if (kept keep) k then (sk d.stand d.waits (kept keep) k).set at1 dt else sk d.stand d.waits (kept keep) k) ∧ (wcells d.waits)[k * 2]? = some (.int .i64 (at1 : Int)) ∧ (wcells d.waits)[k * 2 + 1]? = some (.string (bs dt)) ∧ at1 < d.stand.length :=
        ⟨_, _, sk_succ d.stand d.waits (kept keep) k hlt, (wcells_get d.waits k hlt).1, (wcells_get d.waits k hlt).2, HFINE.out _ (List.getElem_mem _)⟩
      obtain ⟨gw, cw, ew, _, hgw, _, _, hwc⟩ := ownsRow_at HW.out (by omega)
      have w1 := hwc _ _ hq1
      have w2 := hwc _ _ hq2
      rw [← hK.cell (a := ⟨gw, k * 2, none⟩) (by exact hgw) (by simp)] at w1
      rw [← hK.cell (a := ⟨gw, k * 2 + 1, none⟩) (by exact hgw) (by simp)] at w2
      injection ew with ew _ ecw
      subst ew ecw
      have i2 : (k : Int) < d.waits.length := by omega
      have i3 : (at1 : Int) < d.stand.length := by omega
      have HLT := Lib.hid hlt
      have v0 : ∃ u, wr.cell? ⟨g, at1, none⟩ = some u := by
        have hl : at1 < (svals (sk d.stand d.waits (kept keep) k)).length := by rw [svals_len, sk_len]; exact hat
        have := World.ownsRow.cells hrow (g := g) rfl at1 _ (List.getElem?_eq_getElem hl)
        rw [Go.WideShapes.add_plain, Nat.zero_add] at this
        exact ⟨_, this⟩
      obtain ⟨u0, v0⟩ := v0
      have z0 := World.ownsRow.frozenAt hrow at1
      have hstore := World.ownsRow.stored hrow at1 (.string (bs dt))
      rw [svals_set] at hstore
      have hkf := hK.setCell (p := ⟨g, at1, none⟩) (Or.inr hg1) (.string (bs dt))
      have HST := Lib.hid hst
      have HSTORE := Lib.hid hstore.1
      have HROW := Lib.hid hrow
      clear hq1 hq2 hwc hst hstore hrow c0 c1
      rcases Nat.lt_or_ge k keep.length with hlk | hlk
      · have i4 : (k : Int) < keep.length := by omega
        have hkk : kept keep k = keep[k] := by unfold kept; rw [List.getD_eq_getElem?_getD, List.getElem?_eq_getElem hlk]; rfl
        rcases HB.out with ⟨e, _⟩ | ⟨bb, off, cb, eb, hbc, hb3, hb4, hb5, _, hb7, hb8⟩
        · rw [e] at hlk; simp at hlk
        · have bc := hbc k hlk
          rw [← hK.cell (a := ⟨bb, off + k, none⟩) (by show bb < _; omega) (by simp)] at bc
          injection eb with eb _ ecb
          subst eb ecb
          clear hbc
          cases hkv : keep[k]
          · rw [hkv] at bc hkk
            have HKK := Lib.hid hkk
            clear hkv hkk
            go_wp2_with fail
            go_roundw
            case rel => exact ⟨k + 1, HLT.out, by go_num, by rw [HST.out, if_neg (by rw [HKK.out]; simp)]; exact HROW.out, hK⟩
            case measure => (have hh := HLT.out; simp [intOf]; omega)
          · rw [hkv] at bc hkk
            have HKK := Lib.hid hkk
            clear hkv hkk
            go_wp2_with fail
            go_region
            all_goals
              go_wp2_with fail
              go_roundw
              case rel => exact ⟨k + 1, HLT.out, by go_num, by rw [HST.out, if_pos HKK.out]; exact ownsRow_drew HSTORE.out, hkf.drew⟩
              case measure => (have hh := HLT.out; simp [intOf]; omega)
      · have hkk : kept keep k = false := by unfold kept; rw [List.getD_eq_getElem?_getD, List.getElem?_eq_none hlk]; rfl
        have i4 : ¬ ((k : Int) < keep.length) := by omega
        have HKK := Lib.hid hkk
        clear hkk
        go_wp2_with fail
        go_roundw
        case rel => exact ⟨k + 1, HLT.out, by go_num, by rw [HST.out, if_neg (by rw [HKK.out]; simp)]; exact HROW.out, hK⟩
        case measure => (have hh := HLT.out; simp [intOf]; omega)
    · obtain rfl : k = d.waits.length := by omega
      have zr := or_.free 0
      have zr1 := or_.free 1
      have kk := ((hK.mono (T := [r]) (by simp)).setCell (p := ⟨r, 0, none⟩) (Or.inl (by simp)) (.slice (some ⟨g, 0, none⟩) d.stand.length cap)).setCell (p := ⟨r, 1, none⟩) (Or.inl (by simp)) (.slice none 0 0)
      have hne := own_row_ne hrow or_ (by decide)
      have hrow2 := ownsRow_other (ownsRow_other hrow (p := ⟨r, 0, none⟩) hne (.slice (some ⟨g, 0, none⟩) d.stand.length cap)) (p := ⟨r, 1, none⟩) hne (.slice none 0 0)
      have HR0 := Lib.hid (HFIN.out _ _ kk hrow2 (fun v0 v1 o => ((hK.own o (by simp)).set 0 _).set 1 _))
      clear hrow2 hrow hne
      go_wp2_with fail
      go_end0
      exact ⟨rfl, HR0.out, kk⟩
end Go.Proofs.Ytkhbobjfmedimaa
