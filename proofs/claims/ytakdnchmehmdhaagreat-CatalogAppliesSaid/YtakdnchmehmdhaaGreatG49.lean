/- Layer 36 (catalog): the document's comes. -/
import Derived.Test.YtakdnchmehmdhaaGreatG23
import Derived.Test.YtakdnchmehmdhaaGreatG48
namespace Go.Proofs.YtakdnchmehmdhaaGreat
open Go.RowKit
set_option linter.unusedVariables false
set_option linter.unusedSimpArgs false

theorem run_append_runs {w : World} (base : Nat) (v : Value) (n : Nat) (xs : List Value) (hown : w.ownsRow base 48 2 v n xs) (u : Value) (l : List (Int × Int)) (lo hi : Nat) (hsrc : RunsIn w u l lo hi)
    (h63 : n + l.length ≤ maxLen) (hbytes : (n + l.length) * 16 ≤ 140737488355328) (hbase : base ≤ w.heap.size) :
    ∃ v' w', (Builtin.append_ #[45, 45] 45 #[v, u]).run Tryz.prog w = .ok v' w' ∧ w'.ownsRow base 48 2 v' (n + l.length) (xs ++ rcells l) ∧ w.grownBy w' v.ownBlock := by
  obtain ⟨i0, q0, q1, q2, q3⟩ := infoRun
  obtain ⟨p, c, rfl⟩ := hsrc.shape
  cases p with
  | none =>
    have hl0 : l = [] := by
      rcases hsrc with ⟨h, _⟩ | ⟨b, off, c', e, _⟩
      · exact h
      · simp at e
    subst hl0
    have hrun := run_append_none_any (P := Tryz.prog) (w := w) base 45 45 48 i0 2 Tryz.underlying45 q0 v n c xs hown
    exact ⟨v, w, hrun, by simpa [rcells] using hown, grownBy_refl _ _⟩
  | some ad =>
    have hcell : ∀ j u, (rcells l)[j]? = some u → w.cell? (ad.add j) = some u := by
      rcases hsrc with ⟨rfl, _⟩ | ⟨b, off, c', e, h2⟩
      · intro j u hj; simp [rcells] at hj
      · simp at e
        obtain ⟨rfl, rfl⟩ := e
        have hh : RunsIn w (.slice (some ⟨b, off, none⟩) l.length c) l lo hi := Or.inr ⟨b, off, c, rfl, h2⟩
        intro j u hj
        rw [Go.WideShapes.add_plain]
        exact hh.cells j u hj
    obtain ⟨v', w', h1, h2, h3, _, _⟩ := run_append_own_at (P := Tryz.prog) w base 45 45 48 i0 _ 2 16 Tryz.underlying45 q0 q1 q2 q3 rfl (by decide) v n xs hown ad l.length c (rcells l) (rcells_len l) hcell (rcells_one l) h63 hbytes hbase
    exact ⟨v', w', h1, h2, h3⟩
/-- what comes, as the document tells it: the list is given back on an error. -/
def QComesSays (S : Nat → Prop) (l : List JItem) (L : List JItem × Int) (w : World) (e : Ending) (w' : World) : Prop :=
  ∃ v, e = .returned (.tuple #[v, .int .i64 L.2]) ∧ ItemsOff S w' v (if L.2 = 0 then L.1 else l) ∧ Kept [] w w'
theorem qcomes_of {S : Nat → Prop} {l m : List JItem} {L : List JItem × Int} {C : Int} {v : Value} {w w' : World} (h : L = (m, C)) (h1 : ItemsOff S w' v (if C = 0 then m else l)) (k : Kept [] w w') : QComesSays S l L w (.returned (.tuple #[v, .int .i64 C])) w' := by
  subst h; exact ⟨v, rfl, h1, k⟩
set_option maxRecDepth 100000 in
set_option maxHeartbeats 8000000 in
theorem qcomes {S : Nat → Prop} (v : Value) (l : List JItem) (r : JRec) (rv : Value) (next : Int) (most : Nat) (w : World) (h : ItemsOff S w v l) (hS : ∀ x, S x → x < w.heap.size) (hl : l.length ≤ 90000) (hr : Rise l) (hrr : RunsIn w rv r.runs 0 w.heap.size) (hf : r.fits) (hwf : ∀ a ∈ r.runs, WfRun a) (hrl : r.runs.length ≤ 1000000) (hmo : most ≤ 1000000) (hk : r.kind = 1 ∨ r.kind = 2 ∨ r.kind = 3) (hn3 : r.kind = 3 → next = 0) :
    Calls Tryz.prog 102 #[v, .agg (r.cells rv), .int .u32 next, .int .i64 most] w (QComesSays S l (comesX l r.item next most (decide (r.kind = 2))) w) := by
  have HA : Hid (∀ W, Kept [] w W → Calls Tryz.prog 27 #[v, .int .u32 r.id, .string (bs r.name)] W (QAtSays l r.item W)) := Lib.hid (fun W q => qat v l r.item W (h.plain.kept0 q) (by omega))
  have HOKX : Hid (∀ W u, W.ownsRow w.heap.size 48 2 u r.runs.length (rcells r.runs) → ItemOk W (r.item, u) ∧ OffV S u r.runs.length) := Lib.hid (fun W u ho => ⟨⟨(RunsIn.of_own ho).upto, JRec.item_fits hf, hwf⟩, OffV.row ho hS _⟩)
  have HW : Hid (∀ W (i : Nat), Kept [] w W → i < l.length → Calls Tryz.prog 128 #[v, .int .i64 i] W (GivesI S (delI l i) W)) := Lib.hid (fun W i q hi => qwithout v l i W (h.kept0 q) (fun x hx => Nat.lt_of_lt_of_le (hS x hx) q.size) hi (by omega))
  have HI : Hid (∀ W u m v', Kept [] w W → ItemsOff S W v' m → m.length ≤ 100000 → ItemOk W (r.item, u) ∧ OffV S u r.runs.length → Calls Tryz.prog 127 #[v', .agg (r.item.cells u)] W (GivesI S (insI m r.item) W)) := Lib.hid (fun W u m v' q hm hml hx => qwith v' m r.item u W hm (fun x hx => Nat.lt_of_lt_of_le (hS x hx) q.size) hx hml)
  have HH := Lib.hid h
  have HRS := Lib.hid hr
  obtain ⟨pv, cv, rfl⟩ := h.plain.shape
  obtain ⟨prr, crr, rfl⟩ := hrr.shape
  obtain ⟨W1, hW1⟩ : ∃ W1, W1 = w.alloc (.cells (r.cells (.slice prr r.runs.length crr)) 55) := ⟨_, rfl⟩
  have oR : Own W1 w.heap.size (r.cells (.slice prr r.runs.length crr)) 55 := by rw [hW1]; exact Own.new _ _ _
  have k0 : Kept [] w W1 := by rw [hW1]; exact (Kept.refl _ _).alloc _
  unfold JRec.cells at oR hW1 ⊢
  unfold JItem.cells at HI
  have er1 : r.item.id = r.id := rfl
  have er2 : r.item.name = r.name := rfl
  have er3 : r.item.size = r.size := rfl
  rw [er1, er2, er3] at HI
  have OR := Lib.hid oR
  have K0 := Lib.hid k0
  have HRR : Hid (∀ W, Kept [] w W → RunsIn W (.slice prr r.runs.length crr) r.runs 0 w.heap.size) := Lib.hid (fun W q => hrr.kept0 q)
  have HSZ : Hid (w.heap.size ≤ W1.heap.size ∧ w.heap.size < W1.heap.size) := Lib.hid ⟨k0.size, oR.lt⟩
  have HRL := Lib.hid hrl
  have j1 : (l.length : Int) ≤ 90000 := by omega
  have j2 : (most : Int) ≤ 1000000 := by omega
  have HK123 := Lib.hid hk
  have HN3 := Lib.hid hn3
  have HID0 : Hid (0 ≤ r.id) := Lib.hid (bd32 hf.2.1).1
  clear oR k0 h hrr hf hwf hr er1 er2 er3 hS hrl hmo hl hk hn3
  unfold QAtSays at HA
  unfold GivesI at HW HI
  go_enter Tryz.func102, Tryz.ntmps102
  go_upto_region 1 with fail
  rw [← hW1]
  clear hW1
  go_cut [10] from 12 to 22 (fun v10 wx => ∃ xb u, v10 = .pointer (some ⟨xb, 0, none⟩) ∧ Own wx xb #[.int .u32 r.id, .string (bs r.name), .int .i64 r.size, u] 58 ∧ (ItemOk wx (r.item, u) ∧ OffV S u r.runs.length) ∧ Own wx w.heap.size #[.int .i64 r.kind, .int .u32 r.id, .string (bs r.name), .int .i64 r.size, .slice prr r.runs.length crr] 55 ∧ Kept [] w wx ∧ w.heap.size ≤ xb)
  case first =>
    refine wp_region_held_drew (S := (fun W => W.cell? ⟨w.heap.size, 0, none⟩ = some (.int .i64 r.kind) ∧ W.cell? ⟨w.heap.size, 1, none⟩ = some (.int .u32 r.id) ∧ W.cell? ⟨w.heap.size, 2, none⟩ = some (.string (bs r.name)) ∧ W.cell? ⟨w.heap.size, 3, none⟩ = some (.int .i64 r.size) ∧ W.cell? ⟨w.heap.size, 4, none⟩ = some (.slice prr r.runs.length crr))) (by kernel_rfl) (by exact OR.out.drew.k5) (fun hHeld => ?_)
    refine take_at (i := 0) (d := some 12) (v := ?_) rfl rfl (by kernel_rfl) (by kernel_rfl) (by kernel_rfl) (fun _ _ _ h => h) (Or.inl ⟨by rfl, ?_⟩) (by assumption) ?_
    rotate_left
    · (intro w hSw; (try dsimp only at hSw); go_simp; try with_reducible rfl)
    try simp only [Act.put, List.setIfInBounds_toArray, List.set_cons_zero, List.set_cons_succ]
    refine take_at (i := 1) (d := some 13) (v := ?_) rfl rfl (by kernel_rfl) (by kernel_rfl) (by kernel_rfl) (fun _ _ _ h => h) (Or.inl ⟨by rfl, ?_⟩) (by assumption) ?_
    rotate_left
    · (intro w hSw; (try dsimp only at hSw); go_simp; try with_reducible rfl)
    try simp only [Act.put, List.setIfInBounds_toArray, List.set_cons_zero, List.set_cons_succ]
    refine take_at (i := 2) (d := some 14) (v := ?_) rfl rfl (by kernel_rfl) (by kernel_rfl) (by kernel_rfl) (fun _ _ _ h => h) (Or.inl ⟨by rfl, ?_⟩) (by assumption) ?_
    rotate_left
    · (intro w hSw; (try dsimp only at hSw); go_simp; try with_reducible rfl)
    try simp only [Act.put, List.setIfInBounds_toArray, List.set_cons_zero, List.set_cons_succ]
    refine take_at (i := 3) (d := some 15) (v := ?_) rfl rfl (by kernel_rfl) (by kernel_rfl) (by kernel_rfl) (fun _ _ _ h => h) (Or.inl ⟨by rfl, ?_⟩) (by assumption) ?_
    rotate_left
    · (intro w hSw; (try dsimp only at hSw); go_simp; try with_reducible rfl)
    try simp only [Act.put, List.setIfInBounds_toArray, List.set_cons_zero, List.set_cons_succ]
    refine take_at (i := 4) (d := some 16) (v := ?_) rfl rfl (by kernel_rfl) (by kernel_rfl) (by kernel_rfl) (fun _ _ _ h => h) (Or.inl ⟨by rfl, ?_⟩) (by assumption) ?_
    rotate_left
    · (intro w hSw; (try dsimp only at hSw); go_simp; try with_reducible rfl)
    try simp only [Act.put, List.setIfInBounds_toArray, List.set_cons_zero, List.set_cons_succ]
    refine take_at (i := 5) (d := some 17) (v := ?_) rfl rfl (by kernel_rfl) (by kernel_rfl) (by kernel_rfl) (fun _ _ _ h => h) (Or.inl ⟨by rfl, ?_⟩) (by assumption) ?_
    rotate_left
    · (intro w hSw; (try dsimp only at hSw); go_simp; try with_reducible rfl)
    try simp only [Act.put, List.setIfInBounds_toArray, List.set_cons_zero, List.set_cons_succ]
    refine take_at (i := 7) (d := some 19) (v := ?_) rfl rfl (by kernel_rfl) (by kernel_rfl) (by kernel_rfl) (fun _ _ _ h => h) (Or.inl ⟨by rfl, ?_⟩) (by assumption) ?_
    rotate_left
    · (intro w hSw; (try dsimp only at hSw); go_simp; try with_reducible rfl)
    try simp only [Act.put, List.setIfInBounds_toArray, List.set_cons_zero, List.set_cons_succ]
    refine take_at (i := 8) (d := some 20) (v := ?_) rfl rfl (by kernel_rfl) (by kernel_rfl) (by kernel_rfl) (fun _ _ _ h => h) (Or.inl ⟨by rfl, ?_⟩) (by assumption) ?_
    rotate_left
    · (intro w hSw; (try dsimp only at hSw); go_simp; try with_reducible rfl)
    try simp only [Act.put, List.setIfInBounds_toArray, List.set_cons_zero, List.set_cons_succ]
    refine wpAnyH_ready (rs := [6, 11]) (by kernel_rfl) (by simp) ?_
    refine (AllReadyH.cons rfl (fun K hK => ?_) (AllReadyH.cons rfl (fun K hK => ?_) AllReadyH.nil))
    · go_simp
      refine hK.out _ _ ?_ (fun hHeld => ?_)
      · exact (OR.out.drew.alloc _).k5
      clear hK K
      try simp only [Act.put, List.setIfInBounds_toArray, List.set_cons_zero, List.set_cons_succ]
      refine wpAnyH_ready (rs := [9, 11]) (by kernel_rfl) (by simp) ?_
      refine (AllReadyH.cons rfl (fun K hK => ?_) (AllReadyH.cons rfl (fun K hK => ?_) AllReadyH.nil))
      · skip
        obtain ⟨v5, w5, hrun5, hrow5, hgr5⟩ := run_append_runs w.heap.size _ 0 [] (ownsRow_empty W1.drew w.heap.size 48 2 HSZ.out.1) (.slice prr r.runs.length crr) r.runs 0 w.heap.size (HRR.out _ ((K0.out.drew).alloc (.cells #[] 48))) (by have := HRL.out; unfold maxLen; omega) (by have := HRL.out; omega) ((K0.out.drew).alloc (.cells #[] 48)).size
        rw [Nat.zero_add, List.nil_append] at hrow5
        have K5 := Lib.hid (((K0.out.drew).alloc (.cells #[] 48)).grown hgr5 (fun q hq => Or.inr (World.ownsRow.lt (ownsRow_empty W1.drew w.heap.size 48 2 HSZ.out.1) q hq).1))
        have KT5 := Lib.hid ((Kept.refl [W1.heap.size] _).grown hgr5 (fun q hq => Or.inl (by simpa [Value.ownBlock] using hq.symm)))
        have O5 := Lib.hid (KT5.out.own ((OR.out.drew).alloc (.cells #[] 48)) (by have := HSZ.out; simp; omega))
        have ROW5 := Lib.hid hrow5
        have HRUN5 := Lib.hid hrun5
        obtain ⟨p5, c5, rfl⟩ := own_shape hrow5
        refine step_append_runJ rfl _ _ 45 45 rfl _ _ (by simp [Act.eval, Act.put]) (by simp [Act.eval, Act.put]) HRUN5.out ?_
        refine hK.out _ _ ?_ (fun hHeld => ?_)
        · exact O5.out.k5
        clear hK K
        try simp only [Act.put, List.setIfInBounds_toArray, List.set_cons_zero, List.set_cons_succ]
        clear hrun5 hrow5 hgr5
        try simp only [List.getElem_toArray, List.getElem_cons_succ, List.getElem_cons_zero, Act.put, List.setIfInBounds_toArray, List.set_cons_zero, List.set_cons_succ]
        refine take_at (i := 10) (d := some 22) (v := ?_) rfl rfl (by kernel_rfl) (by kernel_rfl) (by kernel_rfl) (fun _ _ _ h => h) (Or.inl ⟨by rfl, ?_⟩) (by assumption) ?_
        rotate_left
        · (intro w hSw; (try dsimp only at hSw); go_simp; try with_reducible rfl)
        try simp only [Act.put, List.setIfInBounds_toArray, List.set_cons_zero, List.set_cons_succ]
        refine wpAnyH_ready (rs := [11]) (by kernel_rfl) (by simp) ?_
        refine (AllReadyH.cons rfl (fun K hK => ?_) AllReadyH.nil)
        go_simp
        refine hK.out _ _ ?_ (fun hHeld => ?_)
        · exact (O5.out.alloc _).k5
        clear hK K
        try simp only [Act.put, List.setIfInBounds_toArray, List.set_cons_zero, List.set_cons_succ]
        refine wpAnyH_ready (rs := [12]) (by kernel_rfl) (by simp) ?_
        refine (AllReadyH.cons rfl (fun K hK => ?_) AllReadyH.nil)
        go_simp
        refine hK.out _ _ ?_ (fun hHeld => ?_)
        · exact (O5.out.alloc _).k5
        clear hK K
        try simp only [Act.put, List.setIfInBounds_toArray, List.set_cons_zero, List.set_cons_succ]
        refine wpAnyH_done (by kernel_rfl) ?_ _
        go_wp2_with fail
        go_meet
        exact ⟨_, _, rfl, Own.new _ _ _, ⟨(HOKX.out _ _ ROW5.out).1.kept0 ((Kept.refl _ _).alloc _), (HOKX.out _ _ ROW5.out).2⟩, O5.out.alloc _, K5.out.alloc _, K5.out.size⟩
      · go_simp
        refine hK.out _ _ ?_ (fun hHeld => ?_)
        · exact ((OR.out.drew.alloc _).alloc _).k5
        clear hK K
        try simp only [Act.put, List.setIfInBounds_toArray, List.set_cons_zero, List.set_cons_succ]
        obtain ⟨v5, w5, hrun5, hrow5, hgr5⟩ := run_append_runs w.heap.size _ 0 [] (World.ownsRow.alloc (ownsRow_empty W1.drew w.heap.size 48 2 HSZ.out.1) (.cells #[.int .u32 0, .string { data := #[] }, .int .i64 0, .slice none 0 0] 58)) (.slice prr r.runs.length crr) r.runs 0 w.heap.size (HRR.out _ ((((K0.out.drew).alloc (.cells #[] 48)).alloc (.cells #[.int .u32 0, .string { data := #[] }, .int .i64 0, .slice none 0 0] 58)))) (by have := HRL.out; unfold maxLen; omega) (by have := HRL.out; omega) ((((K0.out.drew).alloc (.cells #[] 48)).alloc (.cells #[.int .u32 0, .string { data := #[] }, .int .i64 0, .slice none 0 0] 58))).size
        rw [Nat.zero_add, List.nil_append] at hrow5
        have K5 := Lib.hid (((((K0.out.drew).alloc (.cells #[] 48)).alloc (.cells #[.int .u32 0, .string { data := #[] }, .int .i64 0, .slice none 0 0] 58))).grown hgr5 (fun q hq => Or.inr (World.ownsRow.lt (World.ownsRow.alloc (ownsRow_empty W1.drew w.heap.size 48 2 HSZ.out.1) (.cells #[.int .u32 0, .string { data := #[] }, .int .i64 0, .slice none 0 0] 58)) q hq).1))
        have KT5 := Lib.hid ((Kept.refl [W1.heap.size] _).grown hgr5 (fun q hq => Or.inl (by simpa [Value.ownBlock] using hq.symm)))
        have O5 := Lib.hid (KT5.out.own ((((OR.out.drew).alloc (.cells #[] 48)).alloc (.cells #[.int .u32 0, .string { data := #[] }, .int .i64 0, .slice none 0 0] 58))) (by have := HSZ.out; simp; omega))
        have ROW5 := Lib.hid hrow5
        have HRUN5 := Lib.hid hrun5
        obtain ⟨p5, c5, rfl⟩ := own_shape hrow5
        refine wpAnyH_ready (rs := [9]) (by kernel_rfl) (by simp) ?_
        refine (AllReadyH.cons rfl (fun K hK => ?_) AllReadyH.nil)
        refine step_append_runJ rfl _ _ 45 45 rfl _ _ (by simp [Act.eval, Act.put]) (by simp [Act.eval, Act.put]) HRUN5.out ?_
        refine hK.out _ _ ?_ (fun hHeld => ?_)
        · exact O5.out.k5
        clear hK K
        try simp only [Act.put, List.setIfInBounds_toArray, List.set_cons_zero, List.set_cons_succ]
        clear hrun5 hrow5 hgr5
        try simp only [List.getElem_toArray, List.getElem_cons_succ, List.getElem_cons_zero, Act.put, List.setIfInBounds_toArray, List.set_cons_zero, List.set_cons_succ]
        have ox5 := KT5.out.own (Own.new ((W1.drew).alloc (.cells #[] 48)) #[.int .u32 0, .string { data := #[] }, .int .i64 0, .slice none 0 0] 58) (by simp)
        simp only [World.size_alloc, World.size_drew] at ox5
        have OX5 := Lib.hid ox5
        obtain ⟨z0, z1, z2, z3⟩ := ox5.c4
        obtain ⟨y0, y1, y2, y3⟩ := ox5.z4
        have HNB : Hid (w.heap.size ≠ W1.heap.size + 1 ∧ w.heap.size ≤ W1.heap.size + 1) := Lib.hid (by have := HSZ.out; omega)
        refine take_at (i := 10) (d := some 22) (v := ?_) rfl rfl (by kernel_rfl) (by kernel_rfl) (by kernel_rfl) (fun _ _ _ h => h) (Or.inl ⟨by rfl, ?_⟩) (by assumption) ?_
        rotate_left
        · (intro w hSw; (try dsimp only at hSw); go_simp; try with_reducible rfl)
        try simp only [Act.put, List.setIfInBounds_toArray, List.set_cons_zero, List.set_cons_succ]
        refine wpAnyH_ready (rs := [12]) (by kernel_rfl) (by simp) ?_
        refine (AllReadyH.cons rfl (fun K hK => ?_) AllReadyH.nil)
        go_simp
        refine hK.out _ _ ?_ (fun hHeld => ?_)
        · exact (O5.out.other4 HNB.out.1 _ _ _ _).k5
        clear hK K
        try simp only [Act.put, List.setIfInBounds_toArray, List.set_cons_zero, List.set_cons_succ]
        refine wpAnyH_done (by kernel_rfl) ?_ _
        go_wp2_with fail
        go_meet
        exact ⟨_, _, rfl, OX5.out.set4 _ _ _ _, HOKX.out _ _ (ownsRow_keptO ROW5.out ((Kept.refl [W1.heap.size + 1] w5).set4 (Or.inl (by simp)) _ _ _ _) OX5.out (by decide)), O5.out.other4 HNB.out.1 _ _ _ _, K5.out.set4 (Or.inr HNB.out.2) _ _ _ _, HNB.out.2⟩
    · go_simp
      refine hK.out _ _ ?_ (fun hHeld => ?_)
      · exact (OR.out.drew.alloc _).k5
      clear hK K
      try simp only [Act.put, List.setIfInBounds_toArray, List.set_cons_zero, List.set_cons_succ]
      refine wpAnyH_ready (rs := [6]) (by kernel_rfl) (by simp) ?_
      refine (AllReadyH.cons rfl (fun K hK => ?_) AllReadyH.nil)
      go_simp
      refine hK.out _ _ ?_ (fun hHeld => ?_)
      · exact ((OR.out.drew.alloc _).alloc _).k5
      clear hK K
      try simp only [Act.put, List.setIfInBounds_toArray, List.set_cons_zero, List.set_cons_succ]
      obtain ⟨v5, w5, hrun5, hrow5, hgr5⟩ := run_append_runs w.heap.size _ 0 [] (ownsRow_empty ((W1.drew).alloc (.cells #[.int .u32 0, .string { data := #[] }, .int .i64 0, .slice none 0 0] 58)) w.heap.size 48 2 (by have := HSZ.out; simp; omega)) (.slice prr r.runs.length crr) r.runs 0 w.heap.size (HRR.out _ ((((K0.out.drew).alloc (.cells #[.int .u32 0, .string { data := #[] }, .int .i64 0, .slice none 0 0] 58)).alloc (.cells #[] 48)))) (by have := HRL.out; unfold maxLen; omega) (by have := HRL.out; omega) ((((K0.out.drew).alloc (.cells #[.int .u32 0, .string { data := #[] }, .int .i64 0, .slice none 0 0] 58)).alloc (.cells #[] 48))).size
      rw [Nat.zero_add, List.nil_append] at hrow5
      have K5 := Lib.hid (((((K0.out.drew).alloc (.cells #[.int .u32 0, .string { data := #[] }, .int .i64 0, .slice none 0 0] 58)).alloc (.cells #[] 48))).grown hgr5 (fun q hq => Or.inr (World.ownsRow.lt (ownsRow_empty ((W1.drew).alloc (.cells #[.int .u32 0, .string { data := #[] }, .int .i64 0, .slice none 0 0] 58)) w.heap.size 48 2 (by have := HSZ.out; simp; omega)) q hq).1))
      have KT5 := Lib.hid ((Kept.refl [W1.heap.size + 1] _).grown hgr5 (fun q hq => Or.inl (by simpa [Value.ownBlock] using hq.symm)))
      have O5 := Lib.hid (KT5.out.own ((((OR.out.drew).alloc (.cells #[.int .u32 0, .string { data := #[] }, .int .i64 0, .slice none 0 0] 58)).alloc (.cells #[] 48))) (by have := HSZ.out; simp; omega))
      have ROW5 := Lib.hid hrow5
      have HRUN5 := Lib.hid hrun5
      obtain ⟨p5, c5, rfl⟩ := own_shape hrow5
      refine wpAnyH_ready (rs := [9]) (by kernel_rfl) (by simp) ?_
      refine (AllReadyH.cons rfl (fun K hK => ?_) AllReadyH.nil)
      refine step_append_runJ rfl _ _ 45 45 rfl _ _ (by simp [Act.eval, Act.put]) (by simp [Act.eval, Act.put]) HRUN5.out ?_
      refine hK.out _ _ ?_ (fun hHeld => ?_)
      · exact O5.out.k5
      clear hK K
      try simp only [Act.put, List.setIfInBounds_toArray, List.set_cons_zero, List.set_cons_succ]
      clear hrun5 hrow5 hgr5
      try simp only [List.getElem_toArray, List.getElem_cons_succ, List.getElem_cons_zero, Act.put, List.setIfInBounds_toArray, List.set_cons_zero, List.set_cons_succ]
      have ox5 := KT5.out.own ((Own.new (W1.drew) #[.int .u32 0, .string { data := #[] }, .int .i64 0, .slice none 0 0] 58).alloc (.cells #[] 48)) (by simp)
      simp only [World.size_alloc, World.size_drew] at ox5
      have OX5 := Lib.hid ox5
      obtain ⟨z0, z1, z2, z3⟩ := ox5.c4
      obtain ⟨y0, y1, y2, y3⟩ := ox5.z4
      have HNB : Hid (w.heap.size ≠ W1.heap.size ∧ w.heap.size ≤ W1.heap.size) := Lib.hid (by have := HSZ.out; omega)
      refine take_at (i := 10) (d := some 22) (v := ?_) rfl rfl (by kernel_rfl) (by kernel_rfl) (by kernel_rfl) (fun _ _ _ h => h) (Or.inl ⟨by rfl, ?_⟩) (by assumption) ?_
      rotate_left
      · (intro w hSw; (try dsimp only at hSw); go_simp; try with_reducible rfl)
      try simp only [Act.put, List.setIfInBounds_toArray, List.set_cons_zero, List.set_cons_succ]
      refine wpAnyH_ready (rs := [12]) (by kernel_rfl) (by simp) ?_
      refine (AllReadyH.cons rfl (fun K hK => ?_) AllReadyH.nil)
      go_simp
      refine hK.out _ _ ?_ (fun hHeld => ?_)
      · exact (O5.out.other4 HNB.out.1 _ _ _ _).k5
      clear hK K
      try simp only [Act.put, List.setIfInBounds_toArray, List.set_cons_zero, List.set_cons_succ]
      refine wpAnyH_done (by kernel_rfl) ?_ _
      go_wp2_with fail
      go_meet
      exact ⟨_, _, rfl, OX5.out.set4 _ _ _ _, HOKX.out _ _ (ownsRow_keptO ROW5.out ((Kept.refl [W1.heap.size] w5).set4 (Or.inl (by simp)) _ _ _ _) OX5.out (by decide)), O5.out.other4 HNB.out.1 _ _ _ _, K5.out.set4 (Or.inr HNB.out.2) _ _ _ _, HNB.out.2⟩
  case rest =>
    obtain ⟨xb, u, rfl, hX, hIO, hR, hK, hxb⟩ := hcut
    have HX := Lib.hid hX
    have HIO := Lib.hid hIO
    have HR := Lib.hid hR
    have HK := Lib.hid hK
    obtain ⟨pu, nu, cu, rfl⟩ : SlV u := hIO.1.slv
    clear hX hIO hR hK hxb
    obtain ⟨x0, x1, x2, x3⟩ := HX.out.c4
    obtain ⟨y0, y1, y2, y3, y4⟩ := HR.out.k5
    obtain ⟨AT, hAT⟩ : ∃ a, atI l r.item = a := ⟨_, rfl⟩
    rw [hAT] at HA
    obtain ⟨kd, id, nm, sz, rr⟩ := r
    simp only [JRec.item] at HA HI HX HR HIO HK123 HN3 HID0 x0 x1 x2 y0 y1 y2 y3 y4 hAT ⊢
    by_cases hh : hasK l ⟨id, nm, sz, rr⟩
    · have hat : AT = (idxK l ⟨id, nm, sz, rr⟩ : Int) := by rw [← hAT]; unfold atI; exact if_pos hh
      have hii : idxK l ⟨id, nm, sz, rr⟩ < l.length := hh
      have HDEL : Hid (∀ m, m = delI l (idxK l ⟨id, nm, sz, rr⟩) → m.length ≤ 100000 ∧ insI m ⟨id, nm, sz, rr⟩ = setI l (idxK l ⟨id, nm, sz, rr⟩) ⟨id, nm, sz, rr⟩) := Lib.hid (fun m hm => by
        subst hm
        exact ⟨by have := delI_len hii; omega, ins_del HRS.out hii (idxK_at hh)⟩)
      have HE2 : Hid (comesX l ⟨id, nm, sz, rr⟩ next most true = (setI l (idxK l ⟨id, nm, sz, rr⟩) ⟨id, nm, sz, rr⟩, 0)) := Lib.hid (by unfold comesX; rw [if_pos ⟨hh, rfl⟩])
      have HE1 : Hid (comesX l ⟨id, nm, sz, rr⟩ next most false = ([], 252)) := Lib.hid (by unfold comesX; rw [if_neg (by simp), if_pos (Or.inl hh)])
      have HII := Lib.hid hii
      obtain ⟨ii, hie⟩ : ∃ i, i = idxK l ⟨id, nm, sz, rr⟩ := ⟨_, rfl⟩
      rw [← hie] at hat HDEL HE2 HII
      subst hat
      clear hh hii hAT hie
      have g0 : decide ((ii : Int) ≥ 0) = true := by simp
      have g0' : decide ((0 : Int) ≤ ii) = true := g0
      rcases HK123.out with rfl | rfl | rfl
      · clear HK123
        go_wp2_with fail
        refine (HA.out _ HK.out).mono ?_; rintro e w3 ⟨rfl, k3⟩
        have K3 := Lib.hid (HK.out.trans k3)
        obtain ⟨y0, y1, y2, y3, y4⟩ := (k3.own HR.out (by simp)).k5
        obtain ⟨x0, x1, x2, x3⟩ := (k3.own HX.out (by simp)).c4
        clear k3
        go_wp2_with fail
        go_ret2
        exact qcomes_of HE1.out (by rw [if_neg (by decide)]; exact HH.out.kept0 K3.out) K3.out
      · clear HK123
        go_wp2_with fail
        refine (HA.out _ HK.out).mono ?_; rintro e w3 ⟨rfl, k3⟩
        have K3 := Lib.hid (HK.out.trans k3)
        have I3 := Lib.hid (And.intro (HIO.out.1.kept0 k3) HIO.out.2)
        have X3 := Lib.hid (k3.own HX.out (by simp))
        obtain ⟨y0, y1, y2, y3, y4⟩ := (k3.own HR.out (by simp)).k5
        clear k3
        go_wp2_with fail
        refine wp_region_held_drew (S := (fun W => W.cell? ⟨xb, 0, none⟩ = some (.int .u32 id) ∧ W.cell? ⟨xb, 1, none⟩ = some (.string (bs nm)) ∧ W.cell? ⟨xb, 2, none⟩ = some (.int .i64 sz) ∧ W.cell? ⟨xb, 3, none⟩ = some (.slice pu nu cu))) (by kernel_rfl) (by exact X3.out.drew.c4) (fun hHeld => ?_)
        refine take_at (i := 0) (d := some 36) (v := ?_) rfl rfl (by kernel_rfl) (by kernel_rfl) (by kernel_rfl) (fun _ _ _ h => h) (Or.inl ⟨by rfl, ?_⟩) (by assumption) ?_
        rotate_left
        · (intro w hSw; (try dsimp only at hSw); go_simp; try with_reducible rfl)
        try simp only [Act.put, List.setIfInBounds_toArray, List.set_cons_zero, List.set_cons_succ]
        refine take_at (i := 1) (d := some 37) (v := ?_) rfl rfl (by kernel_rfl) (by kernel_rfl) (by kernel_rfl) (fun _ _ _ h => h) (Or.inl ⟨by rfl, ?_⟩) (by assumption) ?_
        rotate_left
        · (intro w hSw; (try dsimp only at hSw); go_simp; try with_reducible rfl)
        try simp only [Act.put, List.setIfInBounds_toArray, List.set_cons_zero, List.set_cons_succ]
        refine take_at (i := 3) (d := some 39) (v := ?_) rfl rfl (by kernel_rfl) (by kernel_rfl) (by kernel_rfl) (fun _ _ _ h => h) (Or.inl ⟨by rfl, ?_⟩) (by assumption) ?_
        rotate_left
        · (intro w hSw; (try dsimp only at hSw); go_simp; try with_reducible rfl)
        try simp only [Act.put, List.setIfInBounds_toArray, List.set_cons_zero, List.set_cons_succ]
        refine wpAnyH_ready (rs := [2]) (by kernel_rfl) (by simp) ?_
        refine (AllReadyH.cons rfl (fun K hK => ?_) AllReadyH.nil)
        go_simp
        ((with_reducible refine (HW.out _ ii K3.out.drew HII.out).mono ?_)); rintro e w4 ⟨v4, rfl, h4, k4⟩
        have H4 := Lib.hid h4
        have K4 := Lib.hid (K3.out.drew.trans k4)
        have X4 := Lib.hid (k4.own X3.out.drew (by simp))
        have I4 := Lib.hid (And.intro ((I3.out.1.kept0 ((Kept.refl _ _).drew)).kept0 k4) I3.out.2)
        obtain ⟨p4, c4, rfl⟩ := h4.plain.shape
        clear h4 k4
        go_wp2_with fail
        refine hK.out _ _ ?_ (fun hHeld => ?_)
        · exact X4.out.c4
        clear hK K
        try simp only [Act.put, List.setIfInBounds_toArray, List.set_cons_zero, List.set_cons_succ]
        refine wpAnyH_ready (rs := [4]) (by kernel_rfl) (by simp) ?_
        refine (AllReadyH.cons rfl (fun K hK => ?_) AllReadyH.nil)
        go_simp
        ((with_reducible refine (HI.out _ _ (delI l ii) _ K4.out H4.out (HDEL.out _ rfl).1 I4.out).mono ?_)); rintro e w5 ⟨v5, rfl, h5, k5⟩
        rw [(HDEL.out _ rfl).2] at h5
        have H5 := Lib.hid h5
        have K5 := Lib.hid (K4.out.trans k5)
        have X5 := Lib.hid (k5.own X4.out (by simp))
        obtain ⟨p5, c5, rfl⟩ := h5.plain.shape
        clear h5 k5
        go_wp2_with fail
        refine hK.out _ _ ?_ (fun hHeld => ?_)
        · exact X5.out.c4
        clear hK K
        try simp only [Act.put, List.setIfInBounds_toArray, List.set_cons_zero, List.set_cons_succ]
        refine take_at (i := 5) (d := some 8) (v := ?_) rfl rfl (by kernel_rfl) (by kernel_rfl) (by kernel_rfl) (fun _ _ _ h => h) (Or.inl ⟨by rfl, ?_⟩) (by assumption) ?_
        rotate_left
        · (intro w hSw; (try dsimp only at hSw); go_simp; try with_reducible rfl)
        try simp only [Act.put, List.setIfInBounds_toArray, List.set_cons_zero, List.set_cons_succ]
        refine take_at (i := 6) (d := some 9) (v := ?_) rfl rfl (by kernel_rfl) (by kernel_rfl) (by kernel_rfl) (fun _ _ _ h => h) (Or.inl ⟨by rfl, ?_⟩) (by assumption) ?_
        rotate_left
        · (intro w hSw; (try dsimp only at hSw); go_simp; try with_reducible rfl)
        try simp only [Act.put, List.setIfInBounds_toArray, List.set_cons_zero, List.set_cons_succ]
        refine wpAnyH_done (by kernel_rfl) ?_ _
        go_wp2_with fail
        go_ret2
        exact qcomes_of HE2.out (by rw [if_pos rfl]; exact H5.out) K5.out
      · clear HK123
        go_wp2_with fail
        refine (HA.out _ HK.out).mono ?_; rintro e w3 ⟨rfl, k3⟩
        have K3 := Lib.hid (HK.out.trans k3)
        obtain ⟨y0, y1, y2, y3, y4⟩ := (k3.own HR.out (by simp)).k5
        obtain ⟨x0, x1, x2, x3⟩ := (k3.own HX.out (by simp)).c4
        clear k3
        go_wp2_with fail
        go_ret2
        exact qcomes_of HE1.out (by rw [if_neg (by decide)]; exact HH.out.kept0 K3.out) K3.out
    · have hat : AT = -1 := by rw [← hAT]; unfold atI; exact if_neg hh
      subst hat
      have hx : ∀ t, comesX l ⟨id, nm, sz, rr⟩ next most t = if id < next then ([], 252) else if most ≤ l.length then ([], 240) else (insI l ⟨id, nm, sz, rr⟩, 0) := fun t => by
        unfold comesX
        rw [if_neg (fun h => hh h.1)]
        by_cases g : id < next
        · rw [if_pos (Or.inr g), if_pos g]
        · rw [if_neg (fun h => h.elim hh g), if_neg g]
      have HX0 := Lib.hid hx
      clear hx hh hAT
      have g0 : decide ((-1 : Int) ≥ 0) = false := by simp
      have g0' : decide ((0 : Int) ≤ -1) = false := g0
      by_cases g1 : id < next
      · have HX1 : Hid (∀ t, comesX l ⟨id, nm, sz, rr⟩ next most t = ([], 252)) := Lib.hid (fun t => by rw [HX0.out, if_pos g1])
        have g2 : decide (id < next) = true := decide_eq_true g1
        rcases HK123.out with rfl | rfl | rfl
        · clear HK123 g1
          go_wp2_with fail
          refine (HA.out _ HK.out).mono ?_; rintro e w3 ⟨rfl, k3⟩
          have K3 := Lib.hid (HK.out.trans k3)
          obtain ⟨y0, y1, y2, y3, y4⟩ := (k3.own HR.out (by simp)).k5
          obtain ⟨x0, x1, x2, x3⟩ := (k3.own HX.out (by simp)).c4
          clear k3
          go_wp2_with fail
          go_ret2
          exact qcomes_of (HX1.out _) (by rw [if_neg (by decide)]; exact HH.out.kept0 K3.out) K3.out
        · clear HK123 g1
          go_wp2_with fail
          refine (HA.out _ HK.out).mono ?_; rintro e w3 ⟨rfl, k3⟩
          have K3 := Lib.hid (HK.out.trans k3)
          obtain ⟨y0, y1, y2, y3, y4⟩ := (k3.own HR.out (by simp)).k5
          obtain ⟨x0, x1, x2, x3⟩ := (k3.own HX.out (by simp)).c4
          clear k3
          go_wp2_with fail
          go_ret2
          exact qcomes_of (HX1.out _) (by rw [if_neg (by decide)]; exact HH.out.kept0 K3.out) K3.out
        · exact absurd (HN3.out rfl) (by have := HID0.out; omega)
      · have g2 : decide (id < next) = false := decide_eq_false g1
        by_cases g3 : most ≤ l.length
        · have HX1 : Hid (∀ t, comesX l ⟨id, nm, sz, rr⟩ next most t = ([], 240)) := Lib.hid (fun t => by rw [HX0.out, if_neg g1, if_pos g3])
          have g4 : decide ((l.length : Int) ≥ most) = true := by simp; omega
          have g4' : decide ((most : Int) ≤ l.length) = true := g4
          have g4n : decide (most ≤ l.length) = true := decide_eq_true g3
          rcases HK123.out with rfl | rfl | rfl
          · clear HK123 g1 g3
            go_wp2_with fail
            refine (HA.out _ HK.out).mono ?_; rintro e w3 ⟨rfl, k3⟩
            have K3 := Lib.hid (HK.out.trans k3)
            obtain ⟨y0, y1, y2, y3, y4⟩ := (k3.own HR.out (by simp)).k5
            obtain ⟨x0, x1, x2, x3⟩ := (k3.own HX.out (by simp)).c4
            clear k3
            go_wp2_with fail
            go_ret2
            exact qcomes_of (HX1.out _) (by rw [if_neg (by decide)]; exact HH.out.kept0 K3.out) K3.out
          · clear HK123 g1 g3
            go_wp2_with fail
            refine (HA.out _ HK.out).mono ?_; rintro e w3 ⟨rfl, k3⟩
            have K3 := Lib.hid (HK.out.trans k3)
            obtain ⟨y0, y1, y2, y3, y4⟩ := (k3.own HR.out (by simp)).k5
            obtain ⟨x0, x1, x2, x3⟩ := (k3.own HX.out (by simp)).c4
            clear k3
            go_wp2_with fail
            go_ret2
            exact qcomes_of (HX1.out _) (by rw [if_neg (by decide)]; exact HH.out.kept0 K3.out) K3.out
          · clear HK123 g1 g3
            go_wp2_with fail
            refine (HA.out _ HK.out).mono ?_; rintro e w3 ⟨rfl, k3⟩
            have K3 := Lib.hid (HK.out.trans k3)
            obtain ⟨y0, y1, y2, y3, y4⟩ := (k3.own HR.out (by simp)).k5
            obtain ⟨x0, x1, x2, x3⟩ := (k3.own HX.out (by simp)).c4
            clear k3
            go_wp2_with fail
            go_ret2
            exact qcomes_of (HX1.out _) (by rw [if_neg (by decide)]; exact HH.out.kept0 K3.out) K3.out
        · have HX1 : Hid (∀ t, comesX l ⟨id, nm, sz, rr⟩ next most t = (insI l ⟨id, nm, sz, rr⟩, 0)) := Lib.hid (fun t => by rw [HX0.out, if_neg g1, if_neg g3])
          have g4 : decide ((l.length : Int) ≥ most) = false := by simp; omega
          have g4' : decide ((most : Int) ≤ l.length) = false := g4
          have g4n : decide (most ≤ l.length) = false := decide_eq_false g3
          rcases HK123.out with rfl | rfl | rfl
          · clear HK123 g1 g3
            go_wp2_with fail
            refine (HA.out _ HK.out).mono ?_; rintro e w3 ⟨rfl, k3⟩
            have K3 := Lib.hid (HK.out.trans k3)
            have KX3 := Lib.hid k3
            obtain ⟨y0, y1, y2, y3, y4⟩ := (k3.own HR.out (by simp)).k5
            obtain ⟨x0, x1, x2, x3⟩ := (k3.own HX.out (by simp)).c4
            clear k3
            go_wp2_with fail
            refine (HI.out _ _ l _ K3.out (HH.out.kept0 K3.out) (by omega) ⟨HIO.out.1.kept0 KX3.out, HIO.out.2⟩).mono ?_; rintro e w4 ⟨v4, rfl, h4, k4⟩
            have H4 := Lib.hid h4
            have K4 := Lib.hid (K3.out.trans k4)
            obtain ⟨p4, c4, rfl⟩ := h4.plain.shape
            clear h4 k4
            go_wp2_with fail
            go_ret2
            exact qcomes_of (HX1.out _) (by rw [if_pos rfl]; exact H4.out) K4.out
          · clear HK123 g1 g3
            go_wp2_with fail
            refine (HA.out _ HK.out).mono ?_; rintro e w3 ⟨rfl, k3⟩
            have K3 := Lib.hid (HK.out.trans k3)
            have KX3 := Lib.hid k3
            obtain ⟨y0, y1, y2, y3, y4⟩ := (k3.own HR.out (by simp)).k5
            obtain ⟨x0, x1, x2, x3⟩ := (k3.own HX.out (by simp)).c4
            clear k3
            go_wp2_with fail
            refine (HI.out _ _ l _ K3.out (HH.out.kept0 K3.out) (by omega) ⟨HIO.out.1.kept0 KX3.out, HIO.out.2⟩).mono ?_; rintro e w4 ⟨v4, rfl, h4, k4⟩
            have H4 := Lib.hid h4
            have K4 := Lib.hid (K3.out.trans k4)
            obtain ⟨p4, c4, rfl⟩ := h4.plain.shape
            clear h4 k4
            go_wp2_with fail
            go_ret2
            exact qcomes_of (HX1.out _) (by rw [if_pos rfl]; exact H4.out) K4.out
          · clear HK123 g1 g3
            go_wp2_with fail
            refine (HA.out _ HK.out).mono ?_; rintro e w3 ⟨rfl, k3⟩
            have K3 := Lib.hid (HK.out.trans k3)
            have KX3 := Lib.hid k3
            obtain ⟨y0, y1, y2, y3, y4⟩ := (k3.own HR.out (by simp)).k5
            obtain ⟨x0, x1, x2, x3⟩ := (k3.own HX.out (by simp)).c4
            clear k3
            go_wp2_with fail
            refine (HI.out _ _ l _ K3.out (HH.out.kept0 K3.out) (by omega) ⟨HIO.out.1.kept0 KX3.out, HIO.out.2⟩).mono ?_; rintro e w4 ⟨v4, rfl, h4, k4⟩
            have H4 := Lib.hid h4
            have K4 := Lib.hid (K3.out.trans k4)
            obtain ⟨p4, c4, rfl⟩ := h4.plain.shape
            clear h4 k4
            go_wp2_with fail
            go_ret2
            exact qcomes_of (HX1.out _) (by rw [if_pos rfl]; exact H4.out) K4.out
end Go.Proofs.YtakdnchmehmdhaaGreat
