/- -/
import Derived.Test.YtdkimcnlhmhpgaaGreatH19
import Derived.Lib.Overlaps
import Derived.Lib.SlBuf
import Derived.Laws.Externs
set_option linter.unusedVariables false
set_option linter.unusedSimpArgs false
namespace Go.Proofs.YtdkimcnlhmhpgaaGreat
open Go.RowKit
theorem own_shape4 {w : World} {b : Nat} {cs : Array Value} {t : TypeId} (h : Own w b cs t) : w.shape? b = some (t, cs.size) := by
 unfold World.shape?
 rw [show w.heap[b]? = some (.cells cs t (0, 0)) from h]
theorem spl_ins {cur xs ys : List Value} {i n : Nat} (hx : cur.take (n * 4) = xs) (hin : i ≤ n) (hys : ys.length = 4) (hl : (n + 1) * 4 ≤ cur.length) (hxl : xs.length = n * 4) :
  (splL (splL cur ((i + 1) * 4) (xs.drop (i * 4))) (i * 4) ys).take ((n + 1) * 4) = xs.take (i * 4) ++ ys ++ xs.drop (i * 4) := by
 have hd : (xs.drop (i * 4)).length = (n - i) * 4 := by rw [List.length_drop, hxl]; omega
 have h1 : (i + 1) * 4 + (xs.drop (i * 4)).length ≤ cur.length := by rw [hd]; omega
 have hsl := splL_len h1
 have h2 : i * 4 + ys.length ≤ (splL cur ((i + 1) * 4) (xs.drop (i * 4))).length := by rw [hsl, hys]; omega
 unfold splL at *
 have e1 : (cur.take ((i + 1) * 4)).length = (i + 1) * 4 := by rw [List.length_take]; omega
 have e2 : (cur.take ((i + 1) * 4) ++ (xs.drop (i * 4) ++ cur.drop ((i + 1) * 4 + (xs.drop (i * 4)).length))).take (i * 4) = xs.take (i * 4) := by
  rw [List.take_append_of_le_length (by omega), List.take_take, Nat.min_eq_left (by omega), ← hx, List.take_take, Nat.min_eq_left (by omega)]
 have e3 : (cur.take ((i + 1) * 4) ++ (xs.drop (i * 4) ++ cur.drop ((i + 1) * 4 + (xs.drop (i * 4)).length))).drop (i * 4 + ys.length) = xs.drop (i * 4) ++ cur.drop ((i + 1) * 4 + (xs.drop (i * 4)).length) := by
  rw [List.drop_append_of_le_length (by omega), List.drop_of_length_le (by omega), List.nil_append]
 rw [e2, e3]
 have e4 : (xs.take (i * 4)).length = i * 4 := by rw [List.length_take]; omega
 rw [← List.append_assoc, ← List.append_assoc, List.take_append_of_le_length (by rw [List.length_append, List.length_append]; omega), List.take_of_length_le (by rw [List.length_append, List.length_append]; omega)]
set_option maxRecDepth 100000 in
set_option maxHeartbeats 4000000 in
theorem zinsert_shift (base : Nat) (n : Nat) (xs : List Value) (i m : Nat) (w : World) (g cap : Nat) (cur : List Value) (vb : Nat) (ys : List Value) (o : Own w g cur.toArray 113) (hb : base ≤ g) (hcm : cap ≤ maxLen) (hcl : cur.length = cap * 4) (htk : cur.take (n * 4) = xs) (hxl : xs.length = n * 4)
  (h1 : ∀ u ∈ xs, u.oneCell' = true) (hi : i < n) (hm : m = 1) (hroom : n + m ≤ cap) (ov : Own w vb ys.toArray 113) (hys : ys.length = 4) (h2 : ∀ u ∈ ys, u.oneCell' = true) (hvb : vb ≠ g) :
  Calls Tryz.prog 270 #[.slice (some ⟨g, 0, none⟩) n cap, .int .i64 i, .slice (some ⟨vb, 0, none⟩) m m] w (RowSays base (.slice (some ⟨g, 0, none⟩) n cap) (n + 1) (xs.take (i * 4) ++ ys ++ xs.drop (i * 4)) w) := by
 obtain ⟨i0, hi0, hz0, hz1', hz2'⟩ := infoItem
 have hsz : (Tryz.prog.info? 113).map (·.size) = some 4 := by rw [hi0]; simp [hz1']
 have hz1 : ¬ ((m : Int) = 0) := by omega
 have hz2 : ¬ ((i : Int) = (n : Int)) := by omega
 have hcm2 : cap ≤ 9223372036854775807 := hcm
 have hov : ∀ lb cb, (callFunc 292 #[.slice (some ⟨vb, 0, none⟩) m m, .slice (some ⟨g, (i + m) * 4, none⟩) lb cb]).run Tryz.prog w = .ok (.value (.bool false)) w := fun lb cb => by
  rw [run_callFunc_extern Tryz.func292 (by kernel_rfl) (by kernel_rfl) (by kernel_rfl) (e := Extern.SlicesOverlaps.overlaps #[50, 50] #[4]) (by kernel_rfl),
   Lib.run_overlaps_apart w 50 4 113 Tryz.underlying50 4 Tryz.sizeOf113 ⟨vb, 0, none⟩ ⟨g, (i + m) * 4, none⟩ m m lb cb hvb _ _ _ _ (own_shape4 ov) (own_shape4 o) (by simp [hcl]; omega) (ov.free _) (ov.free _)]
  rfl
 have hdl : (xs.drop (i * 4)).length = (n - i) * 4 := by rw [List.length_drop, hxl]; omega
 have hw1 : IntKind.i64.wrap ((i : Int) + (m : Int)) = (i : Int) + (m : Int) := by rw [IntKind.wrap_i64]; omega
 have hb1 : (0 : Int) ≤ (i : Int) + (m : Int) := by omega
 have hin : i ≤ n := by omega
 have htn : ((i : Int) + (m : Int)).toNat = i + m := by omega
 have hb2 : ¬ (cap = i + m) := by omega
 have hb3 : (i : Int) ≤ (n : Int) + (m : Int) := by omega
 have hb4 : ¬ (cap = i) := by omega
 have hbig := Nat.mul_le_mul_right 4 hroom
 have hfit : (i + m) * 4 + (xs.drop (i * 4)).length ≤ cur.length := by rw [hdl, hcl]; omega
 have hcp1 : ∀ ty dc sc, (Builtin.copy_ #[50, 50] ty #[.slice (some ⟨g, (i + m) * 4, none⟩) (n + m - (i + m)) dc, .slice (some ⟨g, i * 4, none⟩) (n + m - i) sc]).run Tryz.prog w.drew = .ok (.int .i64 ((n - i : Nat) : Int)) (w.drew.setCells g ((i + m) * 4) (xs.drop (i * 4))) := fun ty dc sc =>
  run_copy_k w.drew _ _ ty 113 4 g ((i + m) * 4) (n + m - (i + m)) dc ⟨g, i * 4, none⟩ (n + m - i) sc (n - i) (xs.drop (i * 4)) Tryz.underlying50 hsz (by show min _ _ = _; omega) hdl
   (fun j v hj => by
    have hj' := (List.getElem?_eq_some_iff.1 hj).1
    rw [hdl] at hj'
    rw [List.getElem?_drop] at hj
    rw [Go.WideShapes.add_plain]
    show w.cell? _ = _
    have hj2 : i * 4 + j < n * 4 := by omega
    have hj3 : i * 4 + j < cur.length := by omega
    have e : cur[i * 4 + j]? = some v := by rw [← hj, ← htk, List.getElem?_take_of_lt hj2]
    rw [List.getElem?_eq_getElem hj3] at e
    rw [o.listC _ hj3]
    exact e)
   (fun j hj => by show (w.cell? _).isSome = true; rw [o.listC _ (by omega)]; rfl) (fun j hj => o.free _) (fun v hv => h1 v (List.mem_of_mem_drop hv))
 obtain ⟨W1, hW1⟩ : ∃ W1, W1 = w.drew.setCells g ((i + m) * 4) (xs.drop (i * 4)) := ⟨_, rfl⟩
 have o1 : Own W1 g (splL cur ((i + m) * 4) (xs.drop (i * 4))).toArray 113 := by rw [hW1]; exact (Own.drew o).setL _ _ hfit
 have ov1 : Own W1 vb ys.toArray 113 := by rw [hW1]; exact (Own.drew ov).otherL hvb _ _
 have hsl := splL_len hfit
 have hfit2 : i * 4 + ys.length ≤ (splL cur ((i + m) * 4) (xs.drop (i * 4))).length := by rw [hsl, hys, hcl]; omega
 have hcp2 : ∀ ty dc, (Builtin.copy_ #[50, 50] ty #[.slice (some ⟨g, i * 4, none⟩) (n + m - i) dc, .slice (some ⟨vb, 0, none⟩) m m]).run Tryz.prog W1 = .ok (.int .i64 ((m : Nat) : Int)) (W1.setCells g (i * 4) ys) := fun ty dc =>
  run_copy_k W1 _ _ ty 113 4 g (i * 4) (n + m - i) dc ⟨vb, 0, none⟩ m m m ys Tryz.underlying50 hsz (by show min _ _ = _; omega) (by rw [hys, hm])
   (fun j v hj => by
    have hj' := (List.getElem?_eq_some_iff.1 hj).1
    rw [Go.WideShapes.add_plain, Nat.zero_add, ov1.listC j hj', ← hj, List.getElem?_eq_getElem hj'])
   (fun j hj => by rw [o1.listC _ (by omega)]; rfl) (fun j hj => o1.free _) h2
 have hO : Hid (Own (W1.setCells g (i * 4) ys) g (splL (splL cur ((i + m) * 4) (xs.drop (i * 4))) (i * 4) ys).toArray 113) := o1.setL _ _ hfit2
 have hKP : Hid (∀ S : List Nat, (∀ g', (Value.slice (some ⟨g, 0, none⟩) n cap).ownBlock = some g' → g' ∈ S) → Kept S w (W1.setCells g (i * 4) ys)) := by
  intro S hS
  have hgS := hS g (by simp [Value.ownBlock])
  rw [hW1]
  exact kept_setL (Or.inl hgS) _ _ (kept_setL (Or.inl hgS) _ _ (Kept.refl _ _).drew)
 have hfin : Hid ((W1.setCells g (i * 4) ys).ownsRow base 113 4 (.slice (some ⟨g, 0, none⟩) (n + m) cap) (n + 1) (xs.take (i * 4) ++ ys ++ xs.drop (i * 4))) := by
  have := ownsRow_of (base := base) (n := n + 1) (cap := cap) hO.out hb (by omega) hcm (by rw [splL_len hfit2, hsl, hcl])
  subst hm
  rw [spl_ins htk hin hys (by omega) hxl] at this
  exact this
 rw [← hW1] at hcp1
 clear hW1 o1 ov1 hsl hfit hfit2 hdl o ov hcl htk hxl h1 h2 hbig hm
 go_enter Tryz.func270, Tryz.ntmps270
 go_wp2_with (simp only [hov])
 go_region_law (refine step_copy_runJ rfl _ _ 50 50 rfl _ _ (by simp [Act.eval, Act.put]) (by simp [Act.eval, Act.put]) (hcp1 _ _ _) ?_)
 go_wp2_with (at_builtin; refine Lib.wpList_copy_run _ rfl _ _ 50 50 rfl _ _ rfl rfl (hcp2 _ _) ?_)
 go_ret
 exact ⟨_, rfl, hfin.out, hKP.out⟩
theorem arr_list (X : Array Value) : ∃ C : List Value, C.toArray = X := ⟨X.toList, by simp⟩
set_option maxRecDepth 100000 in
set_option maxHeartbeats 4000000 in
theorem zinsert_end (base : Nat) (v : Value) (n : Nat) (xs : List Value) (m : Nat) (w : World) (vb : Nat) (ys : List Value) (h : w.ownsRow base 113 4 v n xs) (hbw : base ≤ w.heap.size) (hm : m = 1) (hn : n ≤ 1000000) (ov : Own w vb ys.toArray 113) (hys : ys.length = 4) (h2 : ∀ u ∈ ys, u.oneCell' = true) :
  Calls Tryz.prog 270 #[v, .int .i64 n, .slice (some ⟨vb, 0, none⟩) m m] w (RowSays base v (n + 1) (xs ++ ys) w) := by
 obtain ⟨i0, hi0, hz0, hz1', hz2'⟩ := infoItem
 have hz1 : ¬ ((m : Int) = 0) := by omega
 have H := Lib.hid h
 have hnn : Hid (∀ j u, ys[j]? = some u → w.cell? ((⟨vb, 0, none⟩ : Addr).add j) = some u) := fun j u hj => by
  have hj' := (List.getElem?_eq_some_iff.1 hj).1
  rw [Go.WideShapes.add_plain, Nat.zero_add, ov.listC j hj', ← hj, List.getElem?_eq_getElem hj']
 have H2 := Lib.hid h2
 have HYS : Hid (ys.length = m * 4) := Lib.hid (by rw [hys, hm])
 have HM := Lib.hid hm
 obtain ⟨p, c, rfl⟩ := own_shape h
 have hcn : n ≤ c := by
  rcases h.2 with ⟨e, h0⟩ | ⟨g, cap, cur0, e, _, _, hnc, _⟩
  ·omega
  ·injection e with _ _ e3; omega
 have hc63 : c ≤ 9223372036854775807 := by
  rcases h.2 with ⟨e, h0⟩ | ⟨g, cap, cur0, e, _, _, _, hcm, _⟩
  ·injection e with _ _ e3; omega
  ·injection e with _ _ e3
   have : cap ≤ maxLen := hcm
   unfold maxLen at this; omega
 have hp : p = none → c = 0 := fun e => by
  subst e
  rcases h.2 with ⟨e, h0⟩ | ⟨g, cap, cur0, e, _⟩
  ·injection e
  ·cases e
 clear h h2 hys hm ov
 cases p with
 | none =>
  obtain rfl := hp rfl
  obtain rfl : n = 0 := by omega
  go_enter Tryz.func270, Tryz.ntmps270
  go_wp2_with (at_builtin; refine wpList_append_own_at w rfl (.tmp 23) (.tmp 24) 50 rfl base 113 i0 _ 4 56 Tryz.underlying50 hi0 hz0 hz1' hz2' rfl (by decide) _ _ xs rfl H.out ⟨vb, 0, none⟩ m m ys rfl HYS.out hnn.out H2.out (by have := HM.out; unfold maxLen; omega) (by have := HM.out; omega) hbw ?_)
  intro v' w1 hown hgrow hnil _
  have HO := Lib.hid hown
  have HG := Lib.hid hgrow
  clear hown hgrow hnil
  go_wp2_with fail
  go_ret
  exact ⟨_, rfl, by have := HO.out; rw [HM.out] at this; exact this, fun S hS => (Kept.refl S w).grown HG.out (fun k hk => Or.inl (hS k hk))⟩
 | some a =>
  obtain ⟨ab, ao, asp⟩ := a
  go_enter Tryz.func270, Tryz.ntmps270
  go_wp2_with (at_builtin; refine wpList_append_own_at w rfl (.tmp 23) (.tmp 24) 50 rfl base 113 i0 _ 4 56 Tryz.underlying50 hi0 hz0 hz1' hz2' rfl (by decide) _ _ xs rfl H.out ⟨vb, 0, none⟩ m m ys rfl HYS.out hnn.out H2.out (by have := HM.out; unfold maxLen; omega) (by have := HM.out; omega) hbw ?_)
  all_goals (intro v' w1 hown hgrow hnil _)
  all_goals (have HO := Lib.hid hown)
  all_goals (have HG := Lib.hid hgrow)
  all_goals (clear hown hgrow hnil)
  all_goals go_wp2_with fail
  all_goals go_ret
  all_goals exact ⟨_, rfl, by have := HO.out; rw [HM.out] at this; exact this, fun S hS => (Kept.refl S w).grown HG.out (fun k hk => Or.inl (hS k hk))⟩
set_option maxRecDepth 100000 in
set_option maxHeartbeats 4000000 in
theorem zinsert_grow (base : Nat) (n : Nat) (xs : List Value) (i m : Nat) (w : World) (g cap : Nat) (cur : List Value) (vb : Nat) (ys : List Value) (o : Own w g cur.toArray 113) (hb : base ≤ g) (hnc : n ≤ cap) (hcm : cap ≤ maxLen) (hcl : cur.length = cap * 4) (htk : cur.take (n * 4) = xs) (hxl : xs.length = n * 4)
  (h1 : ∀ u ∈ xs, u.oneCell' = true) (hi : i < n) (hn : n ≤ 1000000) (hm : m = 1) (hroom : cap < n + m) (ov : Own w vb ys.toArray 113) (hys : ys.length = 4) (h2 : ∀ u ∈ ys, u.oneCell' = true) :
  Calls Tryz.prog 270 #[.slice (some ⟨g, 0, none⟩) n cap, .int .i64 i, .slice (some ⟨vb, 0, none⟩) m m] w (RowSays base (.slice (some ⟨g, 0, none⟩) n cap) (n + 1) (xs.take (i * 4) ++ ys ++ xs.drop (i * 4)) w) := by
 obtain ⟨i0, hi0, hz0, hz1', hz2'⟩ := infoItem
 have hsz : (Tryz.prog.info? 113).map (·.size) = some 4 := by rw [hi0]; simp [hz1']
 have hz1 : ¬ ((m : Int) = 0) := by omega
 have hz2 : ¬ ((i : Int) = (n : Int)) := by omega
 have hcm2 : cap ≤ 9223372036854775807 := hcm
 have hglt : g < w.heap.size := o.lt
 obtain ⟨q, hq⟩ : ∃ q, n + m - i = q := ⟨_, rfl⟩
 have hq1 : (n : Int) + (m : Int) - (i : Int) = (q : Int) := by omega
 have hwq : IntKind.i64.wrap (q : Int) = (q : Int) := by rw [IntKind.wrap_i64]; omega
 have hdl : (xs.drop (i * 4)).length = (n - i) * 4 := by rw [List.length_drop, hxl]; omega
 have htl : (xs.take (i * 4)).length = i * 4 := by rw [List.length_take, hxl]; omega
 have hcell : ∀ t, t < n * 4 → w.cell? ⟨g, t, none⟩ = xs[t]? := fun t ht => by
  have hc4 : t < cur.length := by rw [hcl]; have := Nat.mul_le_mul_right 4 hnc; omega
  rw [o.listC t hc4, ← htk, List.getElem?_take_of_lt ht, List.getElem?_eq_getElem hc4]
 have hold : (Builtin.firstCells i0.size i (.slice (some ⟨g, 0, none⟩) i cap)).run Tryz.prog w.drew = .ok (xs.take (i * 4)).toArray w.drew :=
  run_firstCells_some w.drew i0.size i ⟨g, 0, none⟩ i cap (xs.take (i * 4)) (by rw [hz1', htl]) (fun j u hj => by
   have hj' := (List.getElem?_eq_some_iff.1 hj).1
   rw [htl] at hj'
   rw [List.getElem?_take_of_lt hj'] at hj
   rw [Go.WideShapes.add_plain, Nat.zero_add]
   show w.cell? _ = _
   rw [hcell j (by omega)]; exact hj)
 have hrun := fun ty => Lib.run_append_grow_zeros (P := Tryz.prog) w 50 3 ty 113 i0 _ .i64 .i64 Tryz.underlying50 Tryz.underlying3 hi0 hz0 (some ⟨g, 0, none⟩) i cap (xs.take (i * 4)) hold q (by omega) (by omega) (by omega) (by omega) (by rw [hz2']; omega) (by rw [hz2']; exact growslice_fits (by omega) (by omega))
 have hiq : i + q = n + m := by omega
 rw [hiq] at hrun
 have hG63 := grownCap_le_maxLen w (n + m) cap 113 (by unfold maxLen; omega)
 have hGn : n + m ≤ grownCap w (n + m) cap 113 := grownCap_ge w _ _ _
 obtain ⟨G, hG⟩ : ∃ G, G = grownCap w (n + m) cap 113 := ⟨_, rfl⟩
 rw [← hG] at hrun hG63 hGn
 have hG2 : G ≤ 9223372036854775807 := hG63
 obtain ⟨C, hC⟩ := arr_list ((xs.take (i * 4)).toArray ++ Builtin.zeroCells (Value.agg #[.int .u32 0, .string { data := #[] }, .int .i64 0, .slice none 0 0]).cells q ++ Builtin.zeroCells (Value.agg #[.int .u32 0, .string { data := #[] }, .int .i64 0, .slice none 0 0]).cells (G - (n + m)))
 rw [← hC] at hrun
 have hCt : C.take (i * 4) = xs.take (i * 4) := by
  have e := congrArg Array.toList hC
  simp only [Array.toList_append] at e
  rw [e, List.append_assoc, List.take_append_of_le_length (by rw [htl]; exact Nat.le_refl _), List.take_of_length_le (by rw [htl]; exact Nat.le_refl _)]
 have hCl : C.length = G * 4 := by
  have e := congrArg Array.size hC
  simp [Builtin.zeroCells, Value.cells, htl] at e
  rw [e]
  omega
 obtain ⟨W1, hW1⟩ : ∃ W1, W1 = w.drew.alloc (.cells C.toArray 113) := ⟨_, rfl⟩
 rw [← hW1] at hrun
 have o1 : Own W1 w.heap.size C.toArray 113 := by rw [hW1]; exact Own.new w.drew _ _
 have k1 : ∀ S, Kept S w W1 := fun S => by rw [hW1]; exact (Kept.refl S w).drew.alloc _
 have ov1 : Own W1 vb ys.toArray 113 := (k1 []).own ov (by simp)
 have og1 : Own W1 g cur.toArray 113 := (k1 []).own o (by simp)
 have hvlt : vb < w.heap.size := ov.lt
 have hfit1 : i * 4 + ys.length ≤ C.length := by rw [hys, hCl]; omega
 have hcp1 : ∀ ty dc, (Builtin.copy_ #[50, 50] ty #[.slice (some ⟨w.heap.size, i * 4, none⟩) (n + m - i) dc, .slice (some ⟨vb, 0, none⟩) m m]).run Tryz.prog W1 = .ok (.int .i64 ((m : Nat) : Int)) (W1.setCells w.heap.size (i * 4) ys) := fun ty dc =>
  run_copy_k W1 _ _ ty 113 4 w.heap.size (i * 4) (n + m - i) dc ⟨vb, 0, none⟩ m m m ys Tryz.underlying50 hsz (by show min _ _ = _; omega) (by rw [hys, hm])
   (fun j v hj => by
    have hj' := (List.getElem?_eq_some_iff.1 hj).1
    rw [Go.WideShapes.add_plain, Nat.zero_add, ov1.listC j hj', ← hj, List.getElem?_eq_getElem hj'])
   (fun j hj => by rw [o1.listC _ (by omega)]; rfl) (fun j hj => o1.free _) h2
 obtain ⟨W2, hW2⟩ : ∃ W2, W2 = W1.setCells w.heap.size (i * 4) ys := ⟨_, rfl⟩
 rw [← hW2] at hcp1
 have o2 : Own W2 w.heap.size (splL C (i * 4) ys).toArray 113 := by rw [hW2]; exact o1.setL _ _ hfit1
 have k2 : ∀ S, Kept S w W2 := fun S => by rw [hW2]; exact kept_setL (Or.inr (Nat.le_refl _)) _ _ (k1 S)
 have og2 : Own W2 g cur.toArray 113 := (k2 []).own o (by simp)
 have hsl := splL_len hfit1
 have hfit2 : (i + m) * 4 + (xs.drop (i * 4)).length ≤ (splL C (i * 4) ys).length := by rw [hsl, hdl, hCl]; omega
 have hcp2 : ∀ ty dc sc, (Builtin.copy_ #[50, 50] ty #[.slice (some ⟨w.heap.size, (i + m) * 4, none⟩) (n + m - (i + m)) dc, .slice (some ⟨g, i * 4, none⟩) (n - i) sc]).run Tryz.prog W2.drew = .ok (.int .i64 ((n - i : Nat) : Int)) (W2.drew.setCells w.heap.size ((i + m) * 4) (xs.drop (i * 4))) := fun ty dc sc =>
  run_copy_k W2.drew _ _ ty 113 4 w.heap.size ((i + m) * 4) (n + m - (i + m)) dc ⟨g, i * 4, none⟩ (n - i) sc (n - i) (xs.drop (i * 4)) Tryz.underlying50 hsz (by show min _ _ = _; omega) hdl
   (fun j v hj => by
    have hj' := (List.getElem?_eq_some_iff.1 hj).1
    rw [hdl] at hj'
    rw [List.getElem?_drop] at hj
    rw [Go.WideShapes.add_plain]
    show W2.cell? _ = _
    have hj3 : i * 4 + j < n * 4 := by omega
    rw [(k2 []).cell (by exact hglt) (by simp), hcell _ hj3]
    exact hj)
   (fun j hj => by show (W2.cell? _).isSome = true; rw [o2.listC _ (by omega)]; rfl) (fun j hj => o2.free _) (fun v hv => h1 v (List.mem_of_mem_drop hv))
 have hO : Hid (Own (W2.drew.setCells w.heap.size ((i + m) * 4) (xs.drop (i * 4))) w.heap.size (splL (splL C (i * 4) ys) ((i + m) * 4) (xs.drop (i * 4))).toArray 113) := (Own.drew o2).setL _ _ hfit2
 have hKP : Hid (∀ S : List Nat, Kept S w (W2.drew.setCells w.heap.size ((i + m) * 4) (xs.drop (i * 4)))) := fun S => kept_setL (Or.inr (Nat.le_refl _)) _ _ (k2 S).drew
 have hfin : Hid ((W2.drew.setCells w.heap.size ((i + m) * 4) (xs.drop (i * 4))).ownsRow base 113 4 (.slice (some ⟨w.heap.size, 0, none⟩) (n + m) G) (n + 1) (xs.take (i * 4) ++ ys ++ xs.drop (i * 4))) := by
  have := ownsRow_of (base := base) (n := n + 1) (cap := G) hO.out (by omega) (by omega) hG63 (by rw [splL_len hfit2, hsl, hCl])
  have e1 : (n + 1) * 4 = (i + m) * 4 + (xs.drop (i * 4)).length := by rw [hdl]; omega
  have e2 : (i + m) * 4 = i * 4 + ys.length := by rw [hys]; omega
  have hE : (splL (splL C (i * 4) ys) ((i + m) * 4) (xs.drop (i * 4))).take ((n + 1) * 4) = xs.take (i * 4) ++ ys ++ xs.drop (i * 4) := by
   rw [e1, splL_take hfit2, e2, splL_take hfit1, hCt]
  rw [hE] at this
  rw [show n + m = n + 1 by omega]
  exact this
 have hb1 : (0 : Int) ≤ (i : Int) + (m : Int) := by omega
 have hin : i ≤ n := by omega
 have hw1 : IntKind.i64.wrap ((i : Int) + (m : Int)) = (i : Int) + (m : Int) := by rw [IntKind.wrap_i64]; omega
 have hw2 : IntKind.i64.wrap ((n : Int) + (m : Int)) = (n : Int) + (m : Int) := by rw [IntKind.wrap_i64]; omega
 have htn : ((i : Int) + (m : Int)).toNat = i + m := by omega
 have hb2 : ¬ (G = i + m) := by omega
 have hb3 : (i : Int) + (m : Int) ≤ (n : Int) + (m : Int) := by omega
 have hb4 : ¬ (cap = i) := by omega
 have hb5 : ¬ (G = i) := by omega
 have hb6 : (i : Int) ≤ (n : Int) + (m : Int) := by omega
 have hb7 : i + m ≤ n + m := by omega
 have hb8 : i ≤ n + m := by omega
 have hb9 : (cap : Int) < (n : Int) + (m : Int) := by omega
 have hic : i ≤ cap := by omega
 clear hW1 hW2 o1 o2 ov1 og1 og2 k1 k2 hsl hfit1 hfit2 hdl htl o ov hcl htk hxl h1 h2 hcell hold hG hC hCt hCl hys hm hq hiq
 go_enter Tryz.func270, Tryz.ntmps270
 go_wp2_with (at_builtin; refine Lib.wpList_append_run _ rfl _ _ _ _ rfl _ _ rfl rfl _ _ (hrun _) ?_)
 go_wp2_with (at_builtin; refine Lib.wpList_copy_run _ rfl _ _ 50 50 rfl _ _ rfl rfl (hcp1 _ _) ?_)
 go_region_law (refine step_copy_runJ rfl _ _ 50 50 rfl _ _ (by simp [Act.eval, Act.put]) (by simp [Act.eval, Act.put]) (hcp2 _ _ _) ?_)
 go_wp2_with fail
 go_ret
 exact ⟨_, rfl, hfin.out, fun S _ => hKP.out S⟩
theorem zinsert (base : Nat) (v : Value) (n : Nat) (xs : List Value) (i : Nat) (w : World) (vb : Nat) (ys : List Value) (h : w.ownsRow base 113 4 v n xs) (hbw : base ≤ w.heap.size) (h1 : ∀ u ∈ xs, u.oneCell' = true) (hi : i ≤ n) (hn : n ≤ 1000000) (ov : Own w vb ys.toArray 113) (hys : ys.length = 4) (h2 : ∀ u ∈ ys, u.oneCell' = true) (hvb : v.ownBlock ≠ some vb) :
  Calls Tryz.prog 270 #[v, .int .i64 i, .slice (some ⟨vb, 0, none⟩) 1 1] w (RowSays base v (n + 1) (xs.take (i * 4) ++ ys ++ xs.drop (i * 4)) w) := by
 by_cases hin : i = n
 ·subst hin
  have e1 : xs.take (i * 4) = xs := by rw [← h.1]; exact List.take_length
  have e2 : xs.drop (i * 4) = [] := by rw [← h.1]; exact List.drop_length
  rw [e1, e2, List.append_nil]
  exact zinsert_end base v i xs 1 w vb ys h hbw rfl hn ov hys h2
 ·have h' := h
  rcases h.2 with ⟨_, h0⟩ | ⟨g, cap, cur0, rfl, hb, hg, hnc, hcm, hcs, htake⟩
  ·omega
  ·obtain ⟨cur, rfl⟩ : ∃ cur : List Value, cur0 = cur.toArray := ⟨cur0.toList, by simp⟩
   have hne : vb ≠ g := fun e => hvb (by rw [e]; rfl)
   by_cases hr : n + 1 ≤ cap
   ·exact zinsert_shift base n xs i 1 w g cap cur vb ys hg hb hcm (by simpa using hcs) (by simpa using htake) h'.1 h1 (by omega) rfl hr ov hys h2 hne
   ·exact zinsert_grow base n xs i 1 w g cap cur vb ys hg hb hnc hcm (by simpa using hcs) (by simpa using htake) h'.1 h1 (by omega) hn rfl (by omega) ov hys h2
end Go.Proofs.YtdkimcnlhmhpgaaGreat
