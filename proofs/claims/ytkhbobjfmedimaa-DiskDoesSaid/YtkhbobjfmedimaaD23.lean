/- Walks of the document's disk (layer 9): Power, Flush; a fuse laid; New, Load. -/
import Derived.Test.YtkhbobjfmedimaaD22
import Derived.Deep.RegionLaw
namespace Go.Proofs.Ytkhbobjfmedimaa
open Go.RowKit Go.Maps
set_option linter.unusedVariables false
set_option linter.unusedSimpArgs false

theorem RAt.nums {w w' : World} {r lo : Nat} {d d' : DK} (h : RAt w r lo d) (k : Kept [r] w w') (hs : d'.stand = d.stand) (hw : d'.waits = d.waits) (hf : (Lit.int .i64 d'.fuse).wf = true) (ho : d'.ops ≤ 100000)
    (hown : ∀ v0 v1, Own w r #[v0, v1, .int .i64 d.fuse, .int .i64 d.ops, .bool d.down] 67 → Own w' r #[v0, v1, .int .i64 d'.fuse, .int .i64 d'.ops, .bool d'.down] 67) : RAt w' r lo d' := by
  obtain ⟨sv, wv, o, hsr, hwr, h1, h2, h3, h4, h5, h6, h7⟩ := h
  exact ⟨sv, wv, hown _ _ o, by rw [hs]; exact ownsRow_keptO hsr k o (by decide), by rw [hw]; exact ownsRow_keptO hwr k o (by decide), Nat.le_trans h1 k.size, h2, by rw [hs]; exact h3, by rw [hs]; exact h4, hf, ho, by rw [hw]; exact h7⟩
theorem qPower (r lo : Nat) (d : DK) (v : Value) (keep : List Bool) (lo1 hi1 : Nat) (w : World) (h : RAt w r lo d) (hfine : ∀ x ∈ d.waits, x.1 < d.stand.length) (hb : BoolsIn w v keep lo1 hi1) :
    Calls Try.prog 37 #[.pointer (some ⟨r, 0, none⟩), v] w fun e w' => e = .returned (.tuple #[]) ∧ RAt w' r lo (powerD d keep) ∧ Kept [r] w w' := by
  have hst := qStandKeep r lo d v keep lo1 hi1 w h hfine hb
  have ho : d.ops ≤ 100000 := by obtain ⟨_, _, _, _, _, _, _, _, _, _, _, _, _, h3, _⟩ := h.five; exact h3
  obtain ⟨p, c, rfl⟩ := hb.shape
  have HS := Lib.hid hst
  have HO := Lib.hid ho
  clear hst hb h ho
  go_enter Try.func37, Try.ntmps37
  go_wp2_with fail
  refine HS.out.mono ?_; rintro e w2 ⟨rfl, h2, k2⟩
  obtain ⟨v0, v1, o2⟩ := h2.own
  obtain ⟨c0, c1, c2, c3, c4⟩ := o2.c5
  have z := o2.z5
  have kk := ((Kept.refl [r] w2).setCell (p := ⟨r, 2, none⟩) (Or.inl (by simp)) (.int .i64 (-1))).setCell (p := ⟨r, 4, none⟩) (Or.inl (by simp)) (.bool false)
  have hR := RAt.nums (d' := powerD d keep) h2 kk rfl rfl (by show (Lit.int .i64 (-1)).wf = true; rfl) HO.out (fun v0 v1 o => (o.set 2 _).set 4 _)
  have HR0 := Lib.hid hR
  clear hR h2 o2
  go_wp2_with fail
  go_end0
  exact ⟨rfl, HR0.out, k2.trans kk⟩
theorem qFlush_down (r lo : Nat) (d : DK) (w : World) (h : RAt w r lo d) (hd : d.down = true) : Calls Try.prog 36 #[.pointer (some ⟨r, 0, none⟩)] w fun e w' => e = .returned (.int .i64 90) ∧ w = w' := by
  obtain ⟨p, c, p', c', c0, c1, c2, c3, c4, _⟩ := h.five
  rw [hd] at c4
  clear h hd
  go_enter Try.func36, Try.ntmps36
  go_wp2_with fail
  go_ret
  exact ⟨rfl, rfl⟩
theorem qFlush_cut (r lo : Nat) (d : DK) (w : World) (h : RAt w r lo d) (hd : d.down = false) (hf : d.fuse = 0) (ho : d.ops < 100000) : Calls Try.prog 36 #[.pointer (some ⟨r, 0, none⟩)] w fun e w' => e = .returned (.int .i64 90) ∧ RAt w' r lo (opD d) ∧ Kept [r] w w' := by
  obtain ⟨p, c, p', c', c0, c1, c2, c3, c4, _⟩ := h.five
  have hop := qCut r lo d w h ho
  rw [decide_eq_true hf] at hop
  rw [hd] at c4
  clear h hd hf
  go_enter Try.func36, Try.ntmps36
  go_wp2_with (go_at_call 49; refine hop.mono ?_; rintro e w1 ⟨rfl, h1, k1⟩)
  go_ret
  exact ⟨rfl, h1, k1⟩
theorem qFlush (r lo : Nat) (d : DK) (w : World) (h : RAt w r lo d) (hd : d.down = false) (hf : d.fuse ≠ 0) (ho : d.ops < 100000) (hfine : ∀ x ∈ d.waits, x.1 < d.stand.length) :
    Calls Try.prog 36 #[.pointer (some ⟨r, 0, none⟩)] w fun e w' => e = .returned (.int .i64 0) ∧ RAt w' r lo (settleD (opD d) (fun _ => true)) ∧ Kept [r] w w' := by
  obtain ⟨p, c, p', c', c0, c1, c2, c3, c4, _⟩ := h.five
  have hop := qCut r lo d w h ho
  have hset := fun W (hW : RAt W r lo (opD d)) => qStandAll r lo (opD d) (.slice none 0 0) W hW hfine
  rw [decide_eq_false hf] at hop
  rw [hd] at c4
  have HSET := Lib.hid hset
  clear h hd hf hset hfine
  go_enter Try.func36, Try.ntmps36
  go_wp2_with (first
    | (go_at_call 49; refine hop.mono ?_; rintro e w1 ⟨rfl, h1, k1⟩)
    | (go_at_call 50; refine (HSET.out _ h1).mono ?_; rintro e w2 ⟨rfl, h2, k2⟩))
  go_ret
  exact ⟨rfl, h2, k1.trans k2⟩
/-- a fuse laid by hand. -/
def fuseR (d : DK) (n : Int) : DK := ⟨d.stand, d.waits, n, d.ops, d.down⟩
theorem RAt.fuse {w : World} {r lo : Nat} {d : DK} (h : RAt w r lo d) (n : Int) (hn : (Lit.int .i64 n).wf = true) : RAt (w.setCell ⟨r, 2, none⟩ (.int .i64 n)) r lo (fuseR d n) ∧ Kept [r] w (w.setCell ⟨r, 2, none⟩ (.int .i64 n)) := by
  have kk := (Kept.refl [r] w).setCell (p := ⟨r, 2, none⟩) (Or.inl (by simp)) (.int .i64 n)
  have ho : d.ops ≤ 100000 := by obtain ⟨_, _, _, _, _, _, _, _, _, _, _, _, _, h3, _⟩ := h.five; exact h3
  exact ⟨RAt.nums (d' := fuseR d n) h kk rfl rfl hn ho (fun v0 v1 o => o.set 2 _), kk⟩
set_option maxRecDepth 100000 in
set_option maxHeartbeats 2000000 in
theorem qNew (n : Nat) (w : World) (h1 : 1 ≤ n) (h2 : n ≤ 8192) :
    Calls Try.prog 21 #[.int .i64 n] w fun e w' => e = .returned (.pointer (some ⟨w.heap.size, 0, none⟩)) ∧ RAt w' w.heap.size w.heap.size (newD (List.replicate n zeroS)) ∧ Kept [] w w' := by
  obtain ⟨i0, q0, q1, q2, q3⟩ := infoStr
  have hmk := run_make_bytes128
  have hcv := run_conv128
  have o := Own.new w #[.slice none 0 0, .slice none 0 0, .int .i64 (-1), .int .i64 0, .bool false] 67
  have i1 : (n : Int) ≤ 8192 := by omega
  have i2 : (1 : Int) ≤ n := by omega
  generalize zeroS = Z at *
  go_enter Try.func21, Try.ntmps21
  go_wp2_with fail
  go_loopw [4] (fun i wr => ∃ (k : Nat) (v : Value), k ≤ n ∧ i = .int .i64 k ∧ Own wr w.heap.size #[v, .slice none 0 0, .int .i64 (-1), .int .i64 0, .bool false] 67 ∧ wr.ownsRow w.heap.size 9 1 v k (svals (List.replicate k Z)) ∧ Kept [] w wr) (fun i _ => n - (intOf i).toNat)
  case atStart => exact ⟨0, _, by omega, rfl, o, World.ownsRow_nil _ _ _ _, (Kept.refl _ _).alloc _⟩
  case round =>
    obtain ⟨k, v, hk, rfl, orr, hrow, hK⟩ := hrel
    by_cases hlt : k < n
    · have HLT := Lib.hid hlt
      have i3 : (k : Int) < n := by omega
      obtain ⟨p, c, rfl⟩ := own_shape hrow
      have r3 : k + 1 ≤ maxLen := by unfold maxLen; omega
      have r4 : (k + 1) * 16 ≤ 140737488355328 := by omega
      have hsz := hK.size
      have rlt := orr.lt
      obtain ⟨c0, _⟩ := orr.c5
      have zr := orr.free 0
      have hcv2 : (convert 63 9 (.slice (some ⟨wr.heap.size, 0, none⟩) 128 128)).run Try.prog (wr.alloc (.cells (Array.replicate 128 (.int .u8 0)) 5)).drew = .ok (.string (bs Z)) (wr.alloc (.cells (Array.replicate 128 (.int .u8 0)) 5)).drew := hcv wr.drew
      have hnb : (((wr.alloc (.cells (Array.replicate 128 (.int .u8 0)) 5)).alloc (.cells #[.string (bs Z)] 9)).drew).heap[wr.heap.size + 1]? = some (.cells #[.string (bs Z)] 9 (0, 0)) := by
        have := heap_alloc_new (wr.alloc (.cells (Array.replicate 128 (.int .u8 0)) 5)) (.cells #[.string (bs Z)] 9)
        rw [World.size_alloc] at this
        exact this
      have HNB := Lib.hid hnb
      clear hnb
      go_wp2_with fail
      go_region_law (first
        | (refine step_append_lies _ (by rfl) (.tmp 16) (.tmp 19) 49 (by rfl) w.heap.size 9 i0 (.string ⟨#[]⟩) 1 16 Try.underlying49 q0 q1 q2 q3 rfl (by decide) _ _ _ (by rfl) (World.ownsRow.drew (World.ownsRow.alloc (World.ownsRow.alloc hrow _) _)) ⟨wr.heap.size + 1, 0, none⟩ 1 1 [.string (bs Z)] (by rfl) rfl (World.news_of_block HNB.out) (by intro u hu; simp at hu; subst hu; rfl) (by decide) r3 r4 (by simp; omega) (wr.heap.size + 2) (by simp) ?_; intro g3 cap3 w5 o3 gr3 at3 lt3; have og5 := own_grown (World.ownsRow.drew (World.ownsRow.alloc (World.ownsRow.alloc hrow _) _)) gr3 (Own.drew ((orr.alloc _).alloc _)) (by decide); have hc5 := Own.cell og5 0 (by simp); have hf5 := og5.free 0))
      all_goals go_wp2_with fail
      all_goals
        have hKf : Kept [] w (w5.setCell ⟨w.heap.size, 0, none⟩ (.slice (some ⟨g3, 0, none⟩) (k + 1) cap3)) := Kept.setCell (Kept.grown (Kept.drew ((hK.alloc _).alloc _)) gr3 (fun j hj => Or.inr (World.ownsRow.lt hrow j hj).1)) (p := ⟨w.heap.size, 0, none⟩) (Or.inr (Nat.le_refl _)) _
        have o6 := ownsRow_other o3 (p := ⟨w.heap.size, 0, none⟩) (own_row_ne o3 og5 (by decide)) (.slice (some ⟨g3, 0, none⟩) (k + 1) cap3)
        have ec : svals (List.replicate (k + 1) Z) = svals (List.replicate k Z) ++ [.string (bs Z)] := by unfold svals; rw [List.replicate_succ']; simp
        rw [← ec] at o6
        refine ⟨⟨k + 1, _, HLT.out, by go_num, og5.set 0 _, o6, hKf⟩, ?_⟩
        have hh := HLT.out
        simp [intOf]; omega
    · obtain rfl : k = n := by omega
      go_wp2_with fail
      go_ret
      refine ⟨rfl, ⟨v, .slice none 0 0, orr, ?_, World.ownsRow_nil _ _ _ _, hK.size, Nat.le_refl _, ?_, ?_, rfl, Nat.zero_le _, Nat.zero_le _⟩, hK⟩
      · show wr.ownsRow _ _ 1 v (List.replicate k Z).length (svals (List.replicate k Z))
        rw [List.length_replicate]; exact hrow
      · show 1 ≤ (List.replicate k Z).length
        rw [List.length_replicate]; omega
      · show (List.replicate k Z).length ≤ 8192
        rw [List.length_replicate]; omega
set_option maxRecDepth 100000 in
set_option maxHeartbeats 2000000 in
theorem qLoad (img : List UInt8) (n : Nat) (w : World) (hl : img.length = 128 * n) (h1 : 1 ≤ n) (h2 : n ≤ 8192) :
    Calls Try.prog 51 #[.string (bs img)] w fun e w' => e = .returned (.pointer (some ⟨w.heap.size, 0, none⟩)) ∧ RAt w' w.heap.size w.heap.size (newD ((List.range n).map (cutS img))) ∧ Kept [] w w' := by
  obtain ⟨i0, q0, q1, q2, q3⟩ := infoStr
  have hz : (bs img).size = 128 * n := by rw [bs_size, hl]
  have hq : ((128 * n : Nat) : Int) = 128 * (n : Int) := by omega
  have o := Own.new w #[.slice none 0 0, .slice none 0 0, .int .i64 (-1), .int .i64 0, .bool false] 67
  have i1 : (n : Int) ≤ 8192 := by omega
  have i2 : (1 : Int) ≤ n := by omega
  have HX : Hid (∀ k, (bs img).extract (128 * k) (128 * k + 128) = bs (cutS img k)) := extract_cut img
  go_enter Try.func51, Try.ntmps51
  go_wp2_with fail
  go_loopw [4] (fun i wr => ∃ (k : Nat) (v : Value), k ≤ n ∧ i = .int .i64 (128 * (k : Int)) ∧ Own wr w.heap.size #[v, .slice none 0 0, .int .i64 (-1), .int .i64 0, .bool false] 67 ∧ wr.ownsRow w.heap.size 9 1 v k (svals ((List.range k).map (cutS img))) ∧ Kept [] w wr) (fun i _ => 128 * n - (intOf i).toNat)
  case atStart => exact ⟨0, _, by omega, rfl, o, World.ownsRow_nil _ _ _ _, (Kept.refl _ _).alloc _⟩
  case round =>
    obtain ⟨k, v, hk, rfl, orr, hrow, hK⟩ := hrel
    by_cases hlt : k < n
    · have HLT := Lib.hid hlt
      have i3 : 128 * (k : Int) < 128 * n := by omega
      have i4 : 128 * (k : Int) + 128 ≤ 128 * n := by omega
      have t1 : (128 * (k : Int)).toNat = 128 * k := by omega
      have t2 : (128 * (k : Int) + 128).toNat = 128 * k + 128 := by omega
      have hx := HX.out k
      obtain ⟨p, c, rfl⟩ := own_shape hrow
      have r3 : k + 1 ≤ maxLen := by unfold maxLen; omega
      have r4 : (k + 1) * 16 ≤ 140737488355328 := by omega
      have hsz := hK.size
      have rlt := orr.lt
      obtain ⟨c0, _⟩ := orr.c5
      have zr := orr.free 0
      have hnb : ((wr.alloc (.cells #[.string (bs (cutS img k))] 9)).drew).heap[wr.heap.size]? = some (.cells #[.string (bs (cutS img k))] 9 (0, 0)) := heap_alloc_new wr (.cells #[.string (bs (cutS img k))] 9)
      have ec : svals ((List.range (k + 1)).map (cutS img)) = svals ((List.range k).map (cutS img)) ++ [.string (bs (cutS img k))] := by unfold svals; rw [List.range_succ]; simp
      have HEC := Lib.hid ec
      have HNB := Lib.hid hnb
      clear hnb ec
      generalize hCC : bs (cutS img k) = CC at *
      have HCC := Lib.hid hCC
      clear hCC
      have i5 : (0 : Int) ≤ 128 * (k : Int) := by omega
      have i6 : 128 * (k : Int) ≤ 128 * (k : Int) + 128 := by omega
      have rr5 : w.heap.size ≤ wr.heap.size + 1 := by omega
      have wx : IntKind.i64.wrap (128 * (k : Int) + 128) = 128 * (k : Int) + 128 := IntWalk.i64_in _ (by omega)
      go_wp2_with fail
      go_region_law (first
        | (refine step_append_lies _ (by rfl) (.tmp 17) (.tmp 23) 49 (by rfl) w.heap.size 9 i0 (.string ⟨#[]⟩) 1 16 Try.underlying49 q0 q1 q2 q3 rfl (by decide) _ _ _ (by rfl) (World.ownsRow.drew (World.ownsRow.alloc hrow _)) ⟨wr.heap.size, 0, none⟩ 1 1 [.string CC] (by rfl) rfl (World.news_of_block HNB.out) (by intro u hu; simp at hu; subst hu; rfl) (by decide) r3 r4 (by simpa using rr5) (wr.heap.size + 1) (by simp) ?_; intro g3 cap3 w5 o3 gr3 at3 lt3; have og5 := own_grown (World.ownsRow.drew (World.ownsRow.alloc hrow _)) gr3 (Own.drew (orr.alloc _)) (by decide); have hc5 := Own.cell og5 0 (by simp); have hf5 := og5.free 0))
      all_goals go_wp2_with fail
      all_goals
        have hKf : Kept [] w (w5.setCell ⟨w.heap.size, 0, none⟩ (.slice (some ⟨g3, 0, none⟩) (k + 1) cap3)) := Kept.setCell (Kept.grown (Kept.drew (hK.alloc _)) gr3 (fun j hj => Or.inr (World.ownsRow.lt hrow j hj).1)) (p := ⟨w.heap.size, 0, none⟩) (Or.inr (Nat.le_refl _)) _
        have o6 := ownsRow_other o3 (p := ⟨w.heap.size, 0, none⟩) (own_row_ne o3 og5 (by decide)) (.slice (some ⟨g3, 0, none⟩) (k + 1) cap3)
        rw [← HEC.out] at o6
        clear wx
        refine ⟨⟨k + 1, _, HLT.out, by go_num, og5.set 0 _, o6, hKf⟩, ?_⟩
        have hh := HLT.out
        simp [intOf]; omega
    · obtain rfl : k = n := by omega
      go_wp2_with fail
      go_ret
      refine ⟨rfl, ⟨v, .slice none 0 0, orr, ?_, World.ownsRow_nil _ _ _ _, hK.size, Nat.le_refl _, ?_, ?_, rfl, Nat.zero_le _, Nat.zero_le _⟩, hK⟩
      · show wr.ownsRow _ _ 1 v ((List.range k).map (cutS img)).length (svals ((List.range k).map (cutS img)))
        rw [List.length_map, List.length_range]; exact hrow
      · show 1 ≤ ((List.range k).map (cutS img)).length
        rw [List.length_map, List.length_range]; omega
      · show ((List.range k).map (cutS img)).length ≤ 8192
        rw [List.length_map, List.length_range]; omega
end Go.Proofs.Ytkhbobjfmedimaa
