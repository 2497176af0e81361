/- Walk of the document's disk (layer 9): Write. -/
import Derived.Test.YtdnbddhjdokbfaaG20
namespace Go.Proofs.Ytdnbddhjdokbfaa
open Go.RowKit Go.Maps
set_option linter.unusedVariables false
set_option linter.unusedSimpArgs false

theorem infoRWait : ∃ i, Try.prog.info? 123 = some i ∧ i.zero = some (.agg #[.int .i64 0, .string ⟨#[]⟩]) ∧ i.size = 2 ∧ i.bytes = 24 := by
  have hi : (Try.prog.info? 123).map (fun i => (i.zero, i.size, i.bytes)) = some (some (.agg #[.int .i64 0, .string ⟨#[]⟩]), 2, 24) := by kernel_rfl
  obtain ⟨i0, hi0, hz0, hz1, hz2⟩ := info_parts hi
  exact ⟨i0, hi0, hz0, hz1, hz2⟩
theorem qWrite_no (r lo : Nat) (d : DK) (i : Int) (s : ByteArray) (w : World) (h : RAt w r lo d) (hno : atOf d i ≠ 0) : Calls Try.prog 74 #[.pointer (some ⟨r, 0, none⟩), .int .i64 i, .string s] w fun e w' => e = .returned (.int .i64 (atOf d i)) ∧ w = w' := by
  obtain ⟨p, c, p', c', c0, c1, c2, c3, c4, hs, hw, h1, h2, h3, h4, h5⟩ := h.five
  unfold atOf at *
  clear hs hw h
  generalize d.stand.length = n at *
  cases hd : d.down
  · rw [hd] at c4 hno
    simp only [Bool.false_eq_true, if_false] at hno ⊢
    clear hd
    rcases (by omega : i < 0 ∨ (0 ≤ i ∧ i < n) ∨ (0 ≤ i ∧ ¬ (i < n))) with g1 | ⟨g1, g2⟩ | ⟨g1, g2⟩
    · rw [if_pos (Or.inl g1)]
      clear hno
      go_enter Try.func74, Try.ntmps74
      go_wp2_with fail
      go_ret
      exact ⟨rfl, rfl⟩
    · rw [if_neg (by omega)] at hno
      exact absurd rfl hno
    · rw [if_pos (Or.inr (by omega))]
      clear hno
      go_enter Try.func74, Try.ntmps74
      go_wp2_with fail
      go_ret
      exact ⟨rfl, rfl⟩
  · rw [hd] at c4
    simp only [if_true]
    clear hd hno
    go_enter Try.func74, Try.ntmps74
    go_wp2_with fail
    go_ret
    exact ⟨rfl, rfl⟩
theorem qWrite_len (r lo : Nat) (d : DK) (i : Int) (s : ByteArray) (w : World) (h : RAt w r lo d) (h0 : atOf d i = 0) (hs : s.size ≠ 128) : Calls Try.prog 74 #[.pointer (some ⟨r, 0, none⟩), .int .i64 i, .string s] w fun e w' => e = .returned (.int .i64 1) ∧ w = w' := by
  obtain ⟨p, c, p', c', c0, c1, c2, c3, c4, hs1, hw, h1, h2, h3, h4, h5⟩ := h.five
  have hx : ((s.size : Int) == 128) = false := by rw [beq_eq_false_iff_ne]; omega
  unfold atOf at h0
  cases hd : d.down
  · rw [hd, if_neg (by simp)] at h0
    have hi : 0 ≤ i ∧ i < d.stand.length := by
      by_cases hc : i < 0 ∨ (d.stand.length : Int) ≤ i
      · rw [if_pos hc] at h0; omega
      · omega
    obtain ⟨g1, g2⟩ := hi
    rw [hd] at c4
    clear hs hs1 hw h h0 hd
    generalize d.stand.length = n at *
    go_enter Try.func74, Try.ntmps74
    go_wp2_with fail
    go_ret
    exact ⟨rfl, rfl⟩
  · rw [hd, if_pos rfl] at h0; omega
set_option maxRecDepth 100000 in
set_option maxHeartbeats 2000000 in
theorem qWrite (r lo : Nat) (d : DK) (i : Nat) (s : List UInt8) (w : World) (h : RAt w r lo d) (hd : d.down = false) (hi : i < d.stand.length) (hs : s.length = 128) (ho : d.ops < 100000) (hwl : d.waits.length < 20000) :
    Calls Try.prog 74 #[.pointer (some ⟨r, 0, none⟩), .int .i64 i, .string (bs s)] w fun e w' => e = .returned (.int .i64 (if d.fuse = 0 then 90 else 0)) ∧ RAt w' r lo (writeD d i s) ∧ Kept [r] w w' := by
  have hz : (bs s).size = 128 := by rw [bs_size, hs]
  obtain ⟨i0, q0, q1, q2, q3⟩ := infoRWait
  have H := Lib.hid h
  obtain ⟨sv, wv, o⟩ := h.own
  have zo := o.free 1
  obtain ⟨p, c, p', c', c0, c1, c2, c3, c4, hsr, hwr, h1, h2, h3, h4, h5⟩ := h.five
  rw [hd] at c4
  have i1 : (i : Int) < d.stand.length := by omega
  have rlt := o.lt
  have HO : Hid (d.ops < 100000) := ho
  have HWL : Hid (d.waits.length < 20000) := hwl
  have hem := ownsRow_empty w w.heap.size 123 2 (Nat.le_refl _)
  have hwr2 := World.ownsRow.alloc hwr (.cells #[] 123)
  have oA := o.alloc (.cells #[] 123)
  have r3 : 0 + d.waits.length ≤ maxLen := by unfold maxLen; omega
  have r4 : (0 + d.waits.length) * 24 ≤ 140737488355328 := by omega
  have r5 : d.waits.length + 1 ≤ maxLen := by unfold maxLen; omega
  have r6 : (d.waits.length + 1) * 24 ≤ 140737488355328 := by omega
  have hcut : ∀ W, RAt W r lo ⟨d.stand, d.waits ++ [(i, s)], d.fuse, d.ops, d.down⟩ → Calls Try.prog 78 #[.pointer (some ⟨r, 0, none⟩)] W fun e w' => e = .returned (.bool (decide (d.fuse = 0))) ∧ RAt w' r lo (writeD d i s) ∧ Kept [r] W w' := fun W hW => qCut r lo _ W hW ho
  have hfin : ∀ W v, Kept [r] w W → W.ownsRow w.heap.size 123 2 v (d.waits.length + 1) (wcells d.waits ++ [.int .i64 i, .string (bs s)]) → (∀ v0 v1, Own w r #[v0, v1, .int .i64 d.fuse, .int .i64 d.ops, .bool d.down] 59 → Own W r #[v0, v, .int .i64 d.fuse, .int .i64 d.ops, .bool d.down] 59) → RAt W r lo ⟨d.stand, d.waits ++ [(i, s)], d.fuse, d.ops, d.down⟩ := by
    intro W v k hv ho2
    obtain ⟨sv, wv, o, hs, hw, h1, h2, h3, h4, h5, h6, h7⟩ := h
    refine ⟨sv, v, ho2 _ _ o, ownsRow_keptO hs k o (by decide), ?_, Nat.le_trans h1 k.size, h2, h3, h4, h5, h6, ?_⟩
    · have e1 : (d.waits ++ [(i, s)]).length = d.waits.length + 1 := by simp
      show W.ownsRow lo _ 2 v (d.waits ++ [(i, s)]).length (wcells (d.waits ++ [(i, s)]))
      rw [e1, wcells_snoc]
      exact ownsRow_base hv h1
    · show (d.waits ++ [(i, s)]).length ≤ 20000
      rw [List.length_append, List.length_singleton]; omega
  have HFIN := Lib.hid hfin
  clear h hs hwr hfin
  have key : ∀ (fb : Bool) (fc : Int), decide (d.fuse = 0) = fb → (if d.fuse = 0 then (90 : Int) else 0) = fc → (fb = true ∧ fc = 90 ∨ fb = false ∧ fc = 0) →
      Calls Try.prog 74 #[.pointer (some ⟨r, 0, none⟩), .int .i64 i, .string (bs s)] w fun e w' => e = .returned (.int .i64 fc) ∧ RAt w' r lo (writeD d i s) ∧ Kept [r] w w' := by
    intro fb fc hfb hfc hcases
    rw [hfb] at hcut
    have HCUT := Lib.hid hcut
    clear hfb hfc hcut
    rcases hcases with ⟨rfl, rfl⟩ | ⟨rfl, rfl⟩
    all_goals
      go_enter Try.func74, Try.ntmps74
      go_wp2_with (at_builtin; go_must (refine wpList_append_rows rfl (.tmp 26) (.tmp 30) 57 rfl w.heap.size lo 123 i0 (.agg #[.int .i64 0, .string ⟨#[]⟩]) 2 24 Try.underlying57 q0 q1 q2 q3 rfl (by decide) _ _ _ rfl hem _ _ _ rfl hwr2 (wcells_one _) r3 r4 (by simp) ?_))
      intro v5 w5 o3 gr3 hat3
      have k5 : Kept [] w w5 := ((Kept.refl [] w).alloc _).grown gr3 (fun g hg => by
        have : w.heap.size = g := by simpa [Value.ownBlock] using hg
        exact Or.inr (by omega))
      have hs5 := k5.size
      clear gr3 hat3 hem hwr2 oA c0 c1 c2 c3 c4
      go_wp2_with (at_builtin; go_must (refine wpList_append_own_at _ rfl (.tmp 31) (.tmp 35) 57 rfl w.heap.size 123 i0 (.agg #[.int .i64 0, .string ⟨#[]⟩]) 2 24 Try.underlying57 q0 q1 q2 q3 rfl (by decide) _ _ _ rfl (World.ownsRow.alloc o3 _) ⟨w5.heap.size, 0, none⟩ 1 1 [.int .i64 i, .string (bs s)] rfl rfl ?_ ?_ r5 r6 ?_ ?_))
      · exact World.news_of_block (heap_alloc_new w5 _)
      · intro u hu; simp at hu; rcases hu with rfl | rfl <;> rfl
      · simp; omega
      intro v6 w6 o6 gr6 _ _
      have k6 : Kept [] w w6 := (k5.alloc _).grown gr6 (fun g hg => Or.inr (World.ownsRow.lt o3 g hg).1)
      obtain ⟨p6, c6, rfl⟩ := own_shape o6
      have or6 := k6.own o (by simp)
      have z6 := or6.free 1
      obtain ⟨y0, y1, _⟩ := or6.c5
      have kk := (k6.mono (T := [r]) (by simp)).setCell (p := ⟨r, 1, none⟩) (Or.inl (by simp)) (.slice p6 (d.waits.length + 1) c6)
      have o7 := ownsRow_other o6 (p := ⟨r, 1, none⟩) (own_row_ne o6 or6 (by decide)) (.slice p6 (d.waits.length + 1) c6)
      have hR := HFIN.out _ (.slice p6 (d.waits.length + 1) c6) kk o7 (fun v0 v1 o => (k6.own o (by simp)).set 1 _)
      have HRAT := Lib.hid hR
      clear gr6 o3 o6 o7 hR k5
      go_wp2_with fail
      refine (HCUT.out _ HRAT.out).mono ?_; rintro e w8 ⟨rfl, r8, k8⟩
      go_wp2_with fail
      go_ret
      exact ⟨rfl, r8, kk.trans k8⟩
  by_cases hf : d.fuse = 0
  · exact key true _ (decide_eq_true hf) rfl (Or.inl ⟨rfl, if_pos hf⟩)
  · exact key false _ (decide_eq_false hf) rfl (Or.inr ⟨rfl, if_neg hf⟩)
end Go.Proofs.Ytdnbddhjdokbfaa

/- Walks of the document's disk (layer 9): what waits is settled. -/
namespace Go.Proofs.Ytdnbddhjdokbfaa
open Go.RowKit Go.Maps
set_option linter.unusedVariables false
set_option linter.unusedSimpArgs false

theorem svals_set (l : List (List UInt8)) (i : Nat) (s : List UInt8) : (svals l).set i (.string (bs s)) = svals (l.set i s) := by
  unfold svals; simp [List.map_set]
set_option maxRecDepth 100000 in
set_option maxHeartbeats 2000000 in
theorem qStandAll (r lo : Nat) (d : DK) (v : Value) (w : World) (h : RAt w r lo d) (hfine : ∀ x ∈ d.waits, x.1 < d.stand.length) :
    Calls Try.prog 79 #[.pointer (some ⟨r, 0, none⟩), v, .bool true] w fun e w' => e = .returned (.tuple #[]) ∧ RAt w' r lo (settleD d (fun _ => true)) ∧ Kept [r] w w' := by
  obtain ⟨i0, q0, q1, q2, q3⟩ := infoStr
  obtain ⟨sv, wv, o⟩ := h.own
  obtain ⟨p, c, p', c', c0, c1, c2, c3, c4, hsr, hwr, h1, h2, h3, h4, h5⟩ := h.five
  have rlt := o.lt
  have hem := ownsRow_empty w w.heap.size 9 1 (Nat.le_refl _)
  have hsr2 := World.ownsRow.alloc hsr (.cells #[] 9)
  have r3 : 0 + d.stand.length ≤ maxLen := by unfold maxLen; omega
  have r4 : (0 + d.stand.length) * 16 ≤ 140737488355328 := by omega
  have hfin : ∀ W v, Kept [r] w W → W.ownsRow w.heap.size 9 1 v d.stand.length (svals (sk d.stand d.waits (fun _ => true) d.waits.length)) → (∀ v0 v1, Own w r #[v0, v1, .int .i64 d.fuse, .int .i64 d.ops, .bool d.down] 59 → Own W r #[v, .slice none 0 0, .int .i64 d.fuse, .int .i64 d.ops, .bool d.down] 59) → RAt W r lo (settleD d (fun _ => true)) := by
    intro W v k hv ho2
    obtain ⟨sv, wv, o, hs, hw, h1, h2, h3, h4, h5, h6, h7⟩ := h
    refine ⟨v, .slice none 0 0, ho2 _ _ o, ?_, World.ownsRow_nil _ _ _ _, Nat.le_trans h1 k.size, h2, ?_, ?_, h5, h6, Nat.zero_le _⟩
    · show W.ownsRow lo _ 1 v (sk d.stand d.waits (fun _ => true) d.waits.length).length (svals (sk d.stand d.waits (fun _ => true) d.waits.length))
      rw [sk_len]
      exact ownsRow_base hv h1
    · show 1 ≤ (sk d.stand d.waits (fun _ => true) d.waits.length).length
      rw [sk_len]; exact h3
    · show (sk d.stand d.waits (fun _ => true) d.waits.length).length ≤ 8192
      rw [sk_len]; exact h4
  have HFIN := Lib.hid hfin
  have HFINE := Lib.hid hfine
  have HW := Lib.hid hwr
  clear hfin hfine hwr h
  go_enter Try.func79, Try.ntmps79
  go_wp2_with (at_builtin; go_must (refine wpList_append_rows rfl (.tmp 8) (.tmp 12) 56 rfl w.heap.size lo 9 i0 (.string ⟨#[]⟩) 1 16 Try.underlying56 q0 q1 q2 q3 rfl (by decide) _ _ _ rfl hem _ _ _ rfl hsr2 (svals_one _) r3 r4 (by simp) ?_))
  intro v5 w5 o3 gr3 hat3
  have o3' : w5.ownsRow w.heap.size 9 1 v5 d.stand.length (svals d.stand) := by simpa using o3
  have k5 : Kept [] w w5 := ((Kept.refl [] w).alloc _).grown gr3 (fun g hg => by
    have : w.heap.size = g := by simpa [Value.ownBlock] using hg
    exact Or.inr (by omega))
  obtain ⟨g, cap, rfl, hg1, _, hg3, hg4, _⟩ := ownsRow_at o3' (by omega)
  clear gr3 hat3 hem hsr2 o3
  go_wp2_with fail
  go_loopw [7] (fun i wr => ∃ k : Nat, k ≤ d.waits.length ∧ i = .int .i64 k ∧ wr.ownsRow w.heap.size 9 1 (.slice (some ⟨g, 0, none⟩) d.stand.length cap) d.stand.length (svals (sk d.stand d.waits (fun _ => true) k)) ∧ Kept [] w wr) (fun i _ => d.waits.length - (intOf i).toNat)
  case atStart => exact ⟨0, by omega, rfl, o3', k5⟩
  case round =>
    obtain ⟨k, hk, rfl, hrow, hK⟩ := hrel
    have or_ := hK.own o (by simp)
    obtain ⟨x0, x1, x2, x3, x4⟩ := or_.c5
    have y0 : wr.cell? ⟨r, 0, none⟩ = some (.slice p d.stand.length c) := by rw [hK.cell (by exact rlt) (by simp)]; exact c0
    have y1 : wr.cell? ⟨r, 1, none⟩ = some (.slice p' d.waits.length c') := by rw [hK.cell (by exact rlt) (by simp)]; exact c1
    clear x0 x1 x2 x3 x4
    by_cases hlt : k < d.waits.length
    · obtain ⟨at1, dt, hst, hq1, hq2, hat⟩ : ∃ (at1 : Nat) (dt : List UInt8), sk d.stand d.waits (fun _ => true) (k + 1) = (if (fun _ => true) k then (sk d.stand d.waits (fun _ => true) k).set at1 dt else sk d.stand d.waits (fun _ => true) k) ∧ (wcells d.waits)[k * 2]? = some (.int .i64 (at1 : Int)) ∧ (wcells d.waits)[k * 2 + 1]? = some (.string (bs dt)) ∧ at1 < d.stand.length :=
        ⟨_, _, sk_succ d.stand d.waits (fun _ => true) k hlt, (wcells_get d.waits k hlt).1, (wcells_get d.waits k hlt).2, HFINE.out _ (List.getElem_mem _)⟩
      obtain ⟨gw, cw, ew, _, hgw, _, _, hwc⟩ := ownsRow_at HW.out (by omega)
      have w1 := hwc _ _ hq1
      have w2 := hwc _ _ hq2
      rw [← hK.cell (a := ⟨gw, k * 2, none⟩) (by exact hgw) (by simp)] at w1
      rw [← hK.cell (a := ⟨gw, k * 2 + 1, none⟩) (by exact hgw) (by simp)] at w2
      injection ew with ew _ ecw
      subst ew ecw
      have i2 : (k : Int) < d.waits.length := by omega
      have i3 : (at1 : Int) < d.stand.length := by omega
      have HLT := Lib.hid hlt
      have v0 : ∃ u, wr.cell? ⟨g, at1, none⟩ = some u := by
        have hl : at1 < (svals (sk d.stand d.waits (fun _ => true) k)).length := by rw [svals_len, sk_len]; exact hat
        have := World.ownsRow.cells hrow (g := g) rfl at1 _ (List.getElem?_eq_getElem hl)
        rw [Go.WideShapes.add_plain, Nat.zero_add] at this
        exact ⟨_, this⟩
      obtain ⟨u0, v0⟩ := v0
      have z0 := World.ownsRow.frozenAt hrow at1
      have hstore := World.ownsRow.stored hrow at1 (.string (bs dt))
      rw [svals_set] at hstore
      have hkf := hK.setCell (p := ⟨g, at1, none⟩) (Or.inr hg1) (.string (bs dt))
      have HST := Lib.hid hst
      have HSTORE := Lib.hid hstore.1
      have HROW := Lib.hid hrow
      clear hq1 hq2 hwc hst hstore hrow c0 c1
      go_wp2_with fail
      go_region
      all_goals
        go_wp2_with fail
        go_roundw
        case rel => exact ⟨k + 1, HLT.out, by go_num, by rw [HST.out, if_pos trivial]; exact ownsRow_drew HSTORE.out, hkf.drew⟩
        case measure => (have hh := HLT.out; simp [intOf]; omega)
    · obtain rfl : k = d.waits.length := by omega
      have zr := or_.free 0
      have zr1 := or_.free 1
      have kk := ((hK.mono (T := [r]) (by simp)).setCell (p := ⟨r, 0, none⟩) (Or.inl (by simp)) (.slice (some ⟨g, 0, none⟩) d.stand.length cap)).setCell (p := ⟨r, 1, none⟩) (Or.inl (by simp)) (.slice none 0 0)
      have hne := own_row_ne hrow or_ (by decide)
      have hrow2 := ownsRow_other (ownsRow_other hrow (p := ⟨r, 0, none⟩) hne (.slice (some ⟨g, 0, none⟩) d.stand.length cap)) (p := ⟨r, 1, none⟩) hne (.slice none 0 0)
      have HR0 := Lib.hid (HFIN.out _ _ kk hrow2 (fun v0 v1 o => ((hK.own o (by simp)).set 0 _).set 1 _))
      clear hrow2 hrow hne
      go_wp2_with fail
      go_end0
      exact ⟨rfl, HR0.out, kk⟩
set_option maxRecDepth 100000 in
set_option maxHeartbeats 2000000 in
theorem qStandKeep (r lo : Nat) (d : DK) (v : Value) (keep : List Bool) (lo1 hi1 : Nat) (w : World) (h : RAt w r lo d) (hfine : ∀ x ∈ d.waits, x.1 < d.stand.length) (hb : BoolsIn w v keep lo1 hi1) :
    Calls Try.prog 79 #[.pointer (some ⟨r, 0, none⟩), v, .bool false] w fun e w' => e = .returned (.tuple #[]) ∧ RAt w' r lo (settleD d (kept keep)) ∧ Kept [r] w w' := by
  obtain ⟨pk, ck, rfl⟩ := hb.shape
  have hkl : (keep.length : Int) ≤ 9223372036854775807 := by have := hb.len; unfold maxLen at this; omega
  have HB := Lib.hid hb
  clear hb
  obtain ⟨i0, q0, q1, q2, q3⟩ := infoStr
  obtain ⟨sv, wv, o⟩ := h.own
  obtain ⟨p, c, p', c', c0, c1, c2, c3, c4, hsr, hwr, h1, h2, h3, h4, h5⟩ := h.five
  have rlt := o.lt
  have hem := ownsRow_empty w w.heap.size 9 1 (Nat.le_refl _)
  have hsr2 := World.ownsRow.alloc hsr (.cells #[] 9)
  have r3 : 0 + d.stand.length ≤ maxLen := by unfold maxLen; omega
  have r4 : (0 + d.stand.length) * 16 ≤ 140737488355328 := by omega
  have hfin : ∀ W v, Kept [r] w W → W.ownsRow w.heap.size 9 1 v d.stand.length (svals (sk d.stand d.waits (kept keep) d.waits.length)) → (∀ v0 v1, Own w r #[v0, v1, .int .i64 d.fuse, .int .i64 d.ops, .bool d.down] 59 → Own W r #[v, .slice none 0 0, .int .i64 d.fuse, .int .i64 d.ops, .bool d.down] 59) → RAt W r lo (settleD d (kept keep)) := by
    intro W v k hv ho2
    obtain ⟨sv, wv, o, hs, hw, h1, h2, h3, h4, h5, h6, h7⟩ := h
    refine ⟨v, .slice none 0 0, ho2 _ _ o, ?_, World.ownsRow_nil _ _ _ _, Nat.le_trans h1 k.size, h2, ?_, ?_, h5, h6, Nat.zero_le _⟩
    · show W.ownsRow lo _ 1 v (sk d.stand d.waits (kept keep) d.waits.length).length (svals (sk d.stand d.waits (kept keep) d.waits.length))
      rw [sk_len]
      exact ownsRow_base hv h1
    · show 1 ≤ (sk d.stand d.waits (kept keep) d.waits.length).length
      rw [sk_len]; exact h3
    · show (sk d.stand d.waits (kept keep) d.waits.length).length ≤ 8192
      rw [sk_len]; exact h4
  have HFIN := Lib.hid hfin
  have HFINE := Lib.hid hfine
  have HW := Lib.hid hwr
  clear hfin hfine hwr h
  go_enter Try.func79, Try.ntmps79
  go_wp2_with (at_builtin; go_must (refine wpList_append_rows rfl (.tmp 8) (.tmp 12) 56 rfl w.heap.size lo 9 i0 (.string ⟨#[]⟩) 1 16 Try.underlying56 q0 q1 q2 q3 rfl (by decide) _ _ _ rfl hem _ _ _ rfl hsr2 (svals_one _) r3 r4 (by simp) ?_))
  intro v5 w5 o3 gr3 hat3
  have o3' : w5.ownsRow w.heap.size 9 1 v5 d.stand.length (svals d.stand) := by simpa using o3
  have k5 : Kept [] w w5 := ((Kept.refl [] w).alloc _).grown gr3 (fun g hg => by
    have : w.heap.size = g := by simpa [Value.ownBlock] using hg
    exact Or.inr (by omega))
  obtain ⟨g, cap, rfl, hg1, _, hg3, hg4, _⟩ := ownsRow_at o3' (by omega)
  clear gr3 hat3 hem hsr2 o3
  go_wp2_with fail
  go_loopw [7] (fun i wr => ∃ k : Nat, k ≤ d.waits.length ∧ i = .int .i64 k ∧ wr.ownsRow w.heap.size 9 1 (.slice (some ⟨g, 0, none⟩) d.stand.length cap) d.stand.length (svals (sk d.stand d.waits (kept keep) k)) ∧ Kept [] w wr) (fun i _ => d.waits.length - (intOf i).toNat)
  case atStart => exact ⟨0, by omega, rfl, o3', k5⟩
  case round =>
    obtain ⟨k, hk, rfl, hrow, hK⟩ := hrel
    have or_ := hK.own o (by simp)
    obtain ⟨x0, x1, x2, x3, x4⟩ := or_.c5
    have y0 : wr.cell? ⟨r, 0, none⟩ = some (.slice p d.stand.length c) := by rw [hK.cell (by exact rlt) (by simp)]; exact c0
    have y1 : wr.cell? ⟨r, 1, none⟩ = some (.slice p' d.waits.length c') := by rw [hK.cell (by exact rlt) (by simp)]; exact c1
    clear x0 x1 x2 x3 x4
    by_cases hlt : k < d.waits.length
    · obtain ⟨at1, dt, hst, hq1, hq2, hat⟩ : ∃ (at1 : Nat) (dt : List UInt8), sk d.stand d.waits (kept keep) (k + 1) = (if (kept keep) k then (sk d.stand d.waits (kept keep) k).set at1 dt else sk d.stand d.waits (kept keep) k) ∧ (wcells d.waits)[k * 2]? = some (.int .i64 (at1 : Int)) ∧ (wcells d.waits)[k * 2 + 1]? = some (.string (bs dt)) ∧ at1 < d.stand.length :=
        ⟨_, _, sk_succ d.stand d.waits (kept keep) k hlt, (wcells_get d.waits k hlt).1, (wcells_get d.waits k hlt).2, HFINE.out _ (List.getElem_mem _)⟩
      obtain ⟨gw, cw, ew, _, hgw, _, _, hwc⟩ := ownsRow_at HW.out (by omega)
      have w1 := hwc _ _ hq1
      have w2 := hwc _ _ hq2
      rw [← hK.cell (a := ⟨gw, k * 2, none⟩) (by exact hgw) (by simp)] at w1
      rw [← hK.cell (a := ⟨gw, k * 2 + 1, none⟩) (by exact hgw) (by simp)] at w2
      injection ew with ew _ ecw
      subst ew ecw
      have i2 : (k : Int) < d.waits.length := by omega
      have i3 : (at1 : Int) < d.stand.length := by omega
      have HLT := Lib.hid hlt
      have v0 : ∃ u, wr.cell? ⟨g, at1, none⟩ = some u := by
        have hl : at1 < (svals (sk d.stand d.waits (kept keep) k)).length := by rw [svals_len, sk_len]; exact hat
        have := World.ownsRow.cells hrow (g := g) rfl at1 _ (List.getElem?_eq_getElem hl)
        rw [Go.WideShapes.add_plain, Nat.zero_add] at this
        exact ⟨_, this⟩
      obtain ⟨u0, v0⟩ := v0
      have z0 := World.ownsRow.frozenAt hrow at1
      have hstore := World.ownsRow.stored hrow at1 (.string (bs dt))
      rw [svals_set] at hstore
      have hkf := hK.setCell (p := ⟨g, at1, none⟩) (Or.inr hg1) (.string (bs dt))
      have HST := Lib.hid hst
      have HSTORE := Lib.hid hstore.1
      have HROW := Lib.hid hrow
      clear hq1 hq2 hwc hst hstore hrow c0 c1
      rcases Nat.lt_or_ge k keep.length with hlk | hlk
      · have i4 : (k : Int) < keep.length := by omega
        have hkk : kept keep k = keep[k] := by unfold kept; rw [List.getD_eq_getElem?_getD, List.getElem?_eq_getElem hlk]; rfl
        rcases HB.out with ⟨e, _⟩ | ⟨bb, off, cb, eb, hbc, hb3, hb4, hb5, _, hb7, hb8⟩
        · rw [e] at hlk; simp at hlk
        · have bc := hbc k hlk
          rw [← hK.cell (a := ⟨bb, off + k, none⟩) (by show bb < _; omega) (by simp)] at bc
          injection eb with eb _ ecb
          subst eb ecb
          clear hbc
          cases hkv : keep[k]
          · rw [hkv] at bc hkk
            have HKK := Lib.hid hkk
            clear hkv hkk
            go_wp2_with fail
            go_roundw
            case rel => exact ⟨k + 1, HLT.out, by go_num, by rw [HST.out, if_neg (by rw [HKK.out]; simp)]; exact HROW.out, hK⟩
            case measure => (have hh := HLT.out; simp [intOf]; omega)
          · rw [hkv] at bc hkk
            have HKK := Lib.hid hkk
            clear hkv hkk
            go_wp2_with fail
            go_region
            all_goals
              go_wp2_with fail
              go_roundw
              case rel => exact ⟨k + 1, HLT.out, by go_num, by rw [HST.out, if_pos HKK.out]; exact ownsRow_drew HSTORE.out, hkf.drew⟩
              case measure => (have hh := HLT.out; simp [intOf]; omega)
      · have hkk : kept keep k = false := by unfold kept; rw [List.getD_eq_getElem?_getD, List.getElem?_eq_none hlk]; rfl
        have i4 : ¬ ((k : Int) < keep.length) := by omega
        have HKK := Lib.hid hkk
        clear hkk
        go_wp2_with fail
        go_roundw
        case rel => exact ⟨k + 1, HLT.out, by go_num, by rw [HST.out, if_neg (by rw [HKK.out]; simp)]; exact HROW.out, hK⟩
        case measure => (have hh := HLT.out; simp [intOf]; omega)
    · obtain rfl : k = d.waits.length := by omega
      have zr := or_.free 0
      have zr1 := or_.free 1
      have kk := ((hK.mono (T := [r]) (by simp)).setCell (p := ⟨r, 0, none⟩) (Or.inl (by simp)) (.slice (some ⟨g, 0, none⟩) d.stand.length cap)).setCell (p := ⟨r, 1, none⟩) (Or.inl (by simp)) (.slice none 0 0)
      have hne := own_row_ne hrow or_ (by decide)
      have hrow2 := ownsRow_other (ownsRow_other hrow (p := ⟨r, 0, none⟩) hne (.slice (some ⟨g, 0, none⟩) d.stand.length cap)) (p := ⟨r, 1, none⟩) hne (.slice none 0 0)
      have HR0 := Lib.hid (HFIN.out _ _ kk hrow2 (fun v0 v1 o => ((hK.own o (by simp)).set 0 _).set 1 _))
      clear hrow2 hrow hne
      go_wp2_with fail
      go_end0
      exact ⟨rfl, HR0.out, kk⟩
end Go.Proofs.Ytdnbddhjdokbfaa
