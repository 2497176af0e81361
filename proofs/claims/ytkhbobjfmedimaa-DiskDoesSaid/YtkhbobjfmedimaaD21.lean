/- Walk of the document's disk (layer 9): Write. -/
import Derived.Test.YtkhbobjfmedimaaD20
namespace Go.Proofs.Ytkhbobjfmedimaa
open Go.RowKit Go.Maps
set_option linter.unusedVariables false
set_option linter.unusedSimpArgs false

theorem infoRWait : ∃ i, Try.prog.info? 81 = some i ∧ i.zero = some (.agg #[.int .i64 0, .string ⟨#[]⟩]) ∧ i.size = 2 ∧ i.bytes = 24 := by
  have hi : (Try.prog.info? 81).map (fun i => (i.zero, i.size, i.bytes)) = some (some (.agg #[.int .i64 0, .string ⟨#[]⟩]), 2, 24) := by kernel_rfl
  obtain ⟨i0, hi0, hz0, hz1, hz2⟩ := info_parts hi
  exact ⟨i0, hi0, hz0, hz1, hz2⟩
theorem qWrite_no (r lo : Nat) (d : DK) (i : Int) (s : ByteArray) (w : World) (h : RAt w r lo d) (hno : atOf d i ≠ 0) : Calls Try.prog 40 #[.pointer (some ⟨r, 0, none⟩), .int .i64 i, .string s] w fun e w' => e = .returned (.int .i64 (atOf d i)) ∧ w = w' := by
  obtain ⟨p, c, p', c', c0, c1, c2, c3, c4, hs, hw, h1, h2, h3, h4, h5⟩ := h.five
  unfold atOf at *
  clear hs hw h
  generalize d.stand.length = n at *
  cases hd : d.down
  · rw [hd] at c4 hno
    simp only [Bool.false_eq_true, if_false] at hno ⊢
    clear hd
    rcases (by omega : i < 0 ∨ (0 ≤ i ∧ i < n) ∨ (0 ≤ i ∧ ¬ (i < n))) with g1 | ⟨g1, g2⟩ | ⟨g1, g2⟩
    · rw [if_pos (Or.inl g1)]
      clear hno
      go_enter Try.func40, Try.ntmps40
      go_wp2_with fail
      go_ret
      exact ⟨rfl, rfl⟩
    · rw [if_neg (by omega)] at hno
      exact absurd rfl hno
    · rw [if_pos (Or.inr (by omega))]
      clear hno
      go_enter Try.func40, Try.ntmps40
      go_wp2_with fail
      go_ret
      exact ⟨rfl, rfl⟩
  · rw [hd] at c4
    simp only [if_true]
    clear hd hno
    go_enter Try.func40, Try.ntmps40
    go_wp2_with fail
    go_ret
    exact ⟨rfl, rfl⟩
theorem qWrite_len (r lo : Nat) (d : DK) (i : Int) (s : ByteArray) (w : World) (h : RAt w r lo d) (h0 : atOf d i = 0) (hs : s.size ≠ 128) : Calls Try.prog 40 #[.pointer (some ⟨r, 0, none⟩), .int .i64 i, .string s] w fun e w' => e = .returned (.int .i64 1) ∧ w = w' := by
  obtain ⟨p, c, p', c', c0, c1, c2, c3, c4, hs1, hw, h1, h2, h3, h4, h5⟩ := h.five
  have hx : ((s.size : Int) == 128) = false := by rw [beq_eq_false_iff_ne]; omega
  unfold atOf at h0
  cases hd : d.down
  · rw [hd, if_neg (by simp)] at h0
    have hi : 0 ≤ i ∧ i < d.stand.length := by
      by_cases hc : i < 0 ∨ (d.stand.length : Int) ≤ i
      · rw [if_pos hc] at h0; omega
      · omega
    obtain ⟨g1, g2⟩ := hi
    rw [hd] at c4
    clear hs hs1 hw h h0 hd
    generalize d.stand.length = n at *
    go_enter Try.func40, Try.ntmps40
    go_wp2_with fail
    go_ret
    exact ⟨rfl, rfl⟩
  · rw [hd, if_pos rfl] at h0; omega
set_option maxRecDepth 100000 in
set_option maxHeartbeats 2000000 in
theorem qWrite (r lo : Nat) (d : DK) (i : Nat) (s : List UInt8) (w : World) (h : RAt w r lo d) (hd : d.down = false) (hi : i < d.stand.length) (hs : s.length = 128) (ho : d.ops < 100000) (hwl : d.waits.length < 20000) :
    Calls Try.prog 40 #[.pointer (some ⟨r, 0, none⟩), .int .i64 i, .string (bs s)] w fun e w' => e = .returned (.int .i64 (if d.fuse = 0 then 90 else 0)) ∧ RAt w' r lo (writeD d i s) ∧ Kept [r] w w' := by
  have hz : (bs s).size = 128 := by rw [bs_size, hs]
  obtain ⟨i0, q0, q1, q2, q3⟩ := infoRWait
  have H := Lib.hid h
  obtain ⟨sv, wv, o⟩ := h.own
  have zo := o.free 1
  obtain ⟨p, c, p', c', c0, c1, c2, c3, c4, hsr, hwr, h1, h2, h3, h4, h5⟩ := h.five
  rw [hd] at c4
  have i1 : (i : Int) < d.stand.length := by omega
  have rlt := o.lt
  have HO : Hid (d.ops < 100000) := ho
  have HWL : Hid (d.waits.length < 20000) := hwl
  have hem := ownsRow_empty w w.heap.size 81 2 (Nat.le_refl _)
  have hwr2 := World.ownsRow.alloc hwr (.cells #[] 81)
  have oA := o.alloc (.cells #[] 81)
  have r3 : 0 + d.waits.length ≤ maxLen := by unfold maxLen; omega
  have r4 : (0 + d.waits.length) * 24 ≤ 140737488355328 := by omega
  have r5 : d.waits.length + 1 ≤ maxLen := by unfold maxLen; omega
  have r6 : (d.waits.length + 1) * 24 ≤ 140737488355328 := by omega
  have hcut : ∀ W, RAt W r lo ⟨d.stand, d.waits ++ [(i, s)], d.fuse, d.ops, d.down⟩ → Calls Try.prog 49 #[.pointer (some ⟨r, 0, none⟩)] W fun e w' => e = .returned (.bool (decide (d.fuse = 0))) ∧ RAt w' r lo (writeD d i s) ∧ Kept [r] W w' := fun W hW => qCut r lo _ W hW ho
  have hfin : ∀ W v, Kept [r] w W → W.ownsRow w.heap.size 81 2 v (d.waits.length + 1) (wcells d.waits ++ [.int .i64 i, .string (bs s)]) → (∀ v0 v1, Own w r #[v0, v1, .int .i64 d.fuse, .int .i64 d.ops, .bool d.down] 67 → Own W r #[v0, v, .int .i64 d.fuse, .int .i64 d.ops, .bool d.down] 67) → RAt W r lo ⟨d.stand, d.waits ++ [(i, s)], d.fuse, d.ops, d.down⟩ := by
    intro W v k hv ho2
    obtain ⟨sv, wv, o, hs, hw, h1, h2, h3, h4, h5, h6, h7⟩ := h
    refine ⟨sv, v, ho2 _ _ o, ownsRow_keptO hs k o (by decide), ?_, Nat.le_trans h1 k.size, h2, h3, h4, h5, h6, ?_⟩
    · have e1 : (d.waits ++ [(i, s)]).length = d.waits.length + 1 := by simp
      show W.ownsRow lo _ 2 v (d.waits ++ [(i, s)]).length (wcells (d.waits ++ [(i, s)]))
      rw [e1, wcells_snoc]
      exact ownsRow_base hv h1
    · show (d.waits ++ [(i, s)]).length ≤ 20000
      rw [List.length_append, List.length_singleton]; omega
  have HFIN := Lib.hid hfin
  clear h hs hwr hfin
  have key : ∀ (fb : Bool) (fc : Int), decide (d.fuse = 0) = fb → (if d.fuse = 0 then (90 : Int) else 0) = fc → (fb = true ∧ fc = 90 ∨ fb = false ∧ fc = 0) →
      Calls Try.prog 40 #[.pointer (some ⟨r, 0, none⟩), .int .i64 i, .string (bs s)] w fun e w' => e = .returned (.int .i64 fc) ∧ RAt w' r lo (writeD d i s) ∧ Kept [r] w w' := by
    intro fb fc hfb hfc hcases
    rw [hfb] at hcut
    have HCUT := Lib.hid hcut
    clear hfb hfc hcut
    rcases hcases with ⟨rfl, rfl⟩ | ⟨rfl, rfl⟩
    all_goals
      go_enter Try.func40, Try.ntmps40
      go_wp2_with (at_builtin; go_must (refine wpList_append_rows rfl (.tmp 26) (.tmp 30) 65 rfl w.heap.size lo 81 i0 (.agg #[.int .i64 0, .string ⟨#[]⟩]) 2 24 Try.underlying65 q0 q1 q2 q3 rfl (by decide) _ _ _ rfl hem _ _ _ rfl hwr2 (wcells_one _) r3 r4 (by simp) ?_))
      intro v5 w5 o3 gr3 hat3
      have k5 : Kept [] w w5 := ((Kept.refl [] w).alloc _).grown gr3 (fun g hg => by
        have : w.heap.size = g := by simpa [Value.ownBlock] using hg
        exact Or.inr (by omega))
      have hs5 := k5.size
      clear gr3 hat3 hem hwr2 oA c0 c1 c2 c3 c4
      go_wp2_with (at_builtin; go_must (refine wpList_append_own_at _ rfl (.tmp 31) (.tmp 35) 65 rfl w.heap.size 81 i0 (.agg #[.int .i64 0, .string ⟨#[]⟩]) 2 24 Try.underlying65 q0 q1 q2 q3 rfl (by decide) _ _ _ rfl (World.ownsRow.alloc o3 _) ⟨w5.heap.size, 0, none⟩ 1 1 [.int .i64 i, .string (bs s)] rfl rfl ?_ ?_ r5 r6 ?_ ?_))
      · exact World.news_of_block (heap_alloc_new w5 _)
      · intro u hu; simp at hu; rcases hu with rfl | rfl <;> rfl
      · simp; omega
      intro v6 w6 o6 gr6 _ _
      have k6 : Kept [] w w6 := (k5.alloc _).grown gr6 (fun g hg => Or.inr (World.ownsRow.lt o3 g hg).1)
      obtain ⟨p6, c6, rfl⟩ := own_shape o6
      have or6 := k6.own o (by simp)
      have z6 := or6.free 1
      obtain ⟨y0, y1, _⟩ := or6.c5
      have kk := (k6.mono (T := [r]) (by simp)).setCell (p := ⟨r, 1, none⟩) (Or.inl (by simp)) (.slice p6 (d.waits.length + 1) c6)
      have o7 := ownsRow_other o6 (p := ⟨r, 1, none⟩) (own_row_ne o6 or6 (by decide)) (.slice p6 (d.waits.length + 1) c6)
      have hR := HFIN.out _ (.slice p6 (d.waits.length + 1) c6) kk o7 (fun v0 v1 o => (k6.own o (by simp)).set 1 _)
      have HRAT := Lib.hid hR
      clear gr6 o3 o6 o7 hR k5
      go_wp2_with fail
      refine (HCUT.out _ HRAT.out).mono ?_; rintro e w8 ⟨rfl, r8, k8⟩
      go_wp2_with fail
      go_ret
      exact ⟨rfl, r8, kk.trans k8⟩
  by_cases hf : d.fuse = 0
  · exact key true _ (decide_eq_true hf) rfl (Or.inl ⟨rfl, if_pos hf⟩)
  · exact key false _ (decide_eq_false hf) rfl (Or.inr ⟨rfl, if_neg hf⟩)
end Go.Proofs.Ytkhbobjfmedimaa
