/- -/
import Derived.Test.YtdkimcnlhmhpgaaGreatShelf
import Derived.Test.YtdkimcnlhmhpgaaGreatG01
import Derived.Test.YtdkimcnlhmhpgaaGreatG02
import Derived.Test.YtdkimcnlhmhpgaaGreatG08
import Derived.Shelf.Strings.Repeat
import Derived.Lib.Builder
import Derived.Lib.ConvBytes
import Derived.Lib.SlBytesRow
set_option linter.unusedVariables false
set_option linter.unusedSimpArgs false
namespace Go.Proofs.YtdkimcnlhmhpgaaGreat
open Go.RowKit Go.Maps
theorem infoWait : ∃ i, Tryz.prog.info? 206 = some i ∧ i.zero = some (.agg #[.int .i64 0, .string ⟨#[]⟩]) ∧ i.size = 2 ∧ i.bytes = 24 := by
  have hi : (Tryz.prog.info? 206).map (fun i => (i.zero, i.size, i.bytes)) = some (some (.agg #[.int .i64 0, .string ⟨#[]⟩]), 2, 24) := by kernel_rfl
  obtain ⟨i0, hi0, hz0, hz1, hz2⟩ := info_parts hi
  exact ⟨i0, hi0, hz0, hz1, hz2⟩
theorem wcells_snoc (l : List (Nat × List UInt8)) (x : Nat × List UInt8) : wcells (l ++ [x]) = wcells l ++ [.int .i64 (x.1 : Int), .string (bs x.2)] := by simp [wcells]
theorem dWrite_no (b sb mb lo : Nat) (d : DK) (i : Int) (s : ByteArray) (w : World) (h : DiskAt w b sb mb lo d) (hno : atOf d i ≠ 0) : Calls Tryz.prog 88 #[.pointer (some ⟨b, 0, none⟩), .int .i64 i, .string s] w fun e w' => e = .returned (.int .i64 (atOf d i)) ∧ w = w' := by
  have hr := dAt b sb mb lo d i w h
  clear h
  generalize atOf d i = x at *
  have hx : (x == 0) = false := by simpa using hno
  clear hno
  go_enter Tryz.func88, Tryz.ntmps88
  go_wp2_with fail
  refine hr.mono ?_; rintro e w' ⟨rfl, rfl⟩
  go_wp2_with fail
  go_ret
  exact ⟨rfl, rfl⟩
theorem dWrite_len (b sb mb lo : Nat) (d : DK) (i : Int) (s : ByteArray) (w : World) (h : DiskAt w b sb mb lo d) (h0 : atOf d i = 0) (hs : s.size ≠ 128) : Calls Tryz.prog 88 #[.pointer (some ⟨b, 0, none⟩), .int .i64 i, .string s] w fun e w' => e = .returned (.int .i64 1) ∧ w = w' := by
  have hr := dAt b sb mb lo d i w h
  rw [h0] at hr
  clear h h0
  have hx : ((s.size : Int) == 128) = false := by rw [beq_eq_false_iff_ne]; omega
  clear hs
  go_enter Tryz.func88, Tryz.ntmps88
  go_wp2_with fail
  refine hr.mono ?_; rintro e w' ⟨rfl, rfl⟩
  go_wp2_with fail
  go_ret
  exact ⟨rfl, rfl⟩
def writeD (d : DK) (i : Nat) (s : List UInt8) : DK := ⟨d.stand, d.waits ++ [(i, s)], (opD d).fuse, d.ops + 1, (opD d).down⟩
def DKept (b sb mb lo : Nat) (w w' : World) : Prop :=
  w'.os = w.os ∧ w'.tape = w.tape ∧ w'.output = w.output ∧ w.heap.size ≤ w'.heap.size ∧ ∀ k, k < w.heap.size → k ≠ b → k ≠ sb → k ≠ mb → (k < lo ∨ ∀ cs f, w.heap[k]? ≠ some (.cells cs 206 f)) → w'.heap[k]? = w.heap[k]?
theorem DKept.of {S : List Nat} {b sb mb lo : Nat} {w w' : World} (h : Kept S w w') (hS : ∀ x ∈ S, x = b ∨ x = sb ∨ x = mb ∨ w.heap.size ≤ x ∨ (lo ≤ x ∧ ∃ cs f, w.heap[x]? = some (.cells cs 206 f))) : DKept b sb mb lo w w' :=
  ⟨h.os, h.tape, h.output, h.size, fun k hk h1 h2 h3 h4 => h.block k hk (fun hx => by
    rcases hS k hx with h5 | h5 | h5 | h5 | ⟨h6, cs, f, h5⟩
    · exact h1 h5
    · exact h2 h5
    · exact h3 h5
    · omega
    · rcases h4 with h4 | h4
      · omega
      · exact h4 cs f h5)⟩
theorem row_block {lo n b : Nat} {v : Value} {xs : List Value} {w w1 : World} (hw : w1.ownsRow lo 206 2 v n xs) (k1 : Kept [b] w w1) (hlo : b < lo) :
    ∃ g, (∀ j, v.ownBlock = some j → j = g) ∧ (g = b ∨ w.heap.size ≤ g ∨ (lo ≤ g ∧ ∃ cs f, w.heap[g]? = some (.cells cs 206 f))) := by
  cases hb : v.ownBlock with
  | none => exact ⟨b, (fun j hj => by cases hj), Or.inl rfl⟩
  | some g =>
    refine ⟨g, fun j hj => by injection hj with hj; exact hj.symm, ?_⟩
    rcases hw.2 with ⟨rfl, _⟩ | ⟨g', cap, cur, rfl, hge, hh, _⟩
    · simp [Value.ownBlock] at hb
    · have e : g' = g := by simpa [Value.ownBlock] using hb
      subst e
      by_cases hlt : g' < w.heap.size
      · exact Or.inr (Or.inr ⟨hge, cur, (0, 0), by rw [← k1.block g' hlt (by simp; omega)]; exact hh⟩)
      · exact Or.inr (Or.inl (by omega))
set_option maxRecDepth 100000 in
set_option maxHeartbeats 1000000 in
theorem dWrite (b sb mb lo : Nat) (d : DK) (i : Nat) (s : List UInt8) (w : World) (h : DiskAt w b sb mb lo d) (hd : d.down = false) (hi : i < d.stand.length) (hs : s.length = 128) (ho : d.ops < 100000) (hwl : d.waits.length ≤ 10000) :
    Calls Tryz.prog 88 #[.pointer (some ⟨b, 0, none⟩), .int .i64 i, .string (bs s)] w fun e w' => e = .returned (.int .i64 (if d.fuse = 0 then 90 else 0)) ∧ DiskAt w' b sb mb lo (writeD d i s) ∧ DKept b sb mb lo w w' := by
  have hr := dAt b sb mb lo d i w h
  have e0 : atOf d i = 0 := by unfold atOf; rw [hd, if_neg (by simp), if_neg (by omega)]
  rw [e0] at hr
  have hop := dOperate b sb mb lo d w h ho
  have hz : (bs s).size = 128 := by rw [bs_size, hs]
  have hsm : (bs s).size ≤ maxLen := by rw [hz]; decide
  have hi8 : i ≤ 8192 := by obtain ⟨_, _, _, _, _, _, _, _, _, _, _, _, _, h8, _⟩ := h; omega
  obtain ⟨i0, q0, q1, q2, q3⟩ := infoWait
  clear h e0 hd
  have HI := Lib.hid hi
  clear hi
  have key : ∀ (fb : Bool) (fc : Int), decide (d.fuse = 0) = fb → (if d.fuse = 0 then (90 : Int) else 0) = fc → (fb = true ∧ fc = 90 ∨ fb = false ∧ fc = 0) →
      Calls Tryz.prog 88 #[.pointer (some ⟨b, 0, none⟩), .int .i64 i, .string (bs s)] w fun e w' => e = .returned (.int .i64 fc) ∧ DiskAt w' b sb mb lo (writeD d i s) ∧ DKept b sb mb lo w w' := by
    intro fb fc hfb hfc hcases
    rw [hfb] at hop
    clear hfb hfc
    rcases hcases with ⟨rfl, rfl⟩ | ⟨rfl, rfl⟩
    all_goals
      go_enter Tryz.func88, Tryz.ntmps88
      go_wp2_with fail
      refine hr.mono ?_; rintro e w' ⟨rfl, rfl⟩
      go_wp2_with fail
      refine hop.mono ?_; rintro e w1 ⟨rfl, h1, k1⟩
      obtain ⟨wv, n, o, os, hw, hm, hn, g2, g3, g4, g5, g6, g7, g8, g9, g10, g11⟩ := h1
      obtain ⟨p, c, rfl⟩ := own_shape hw
      obtain ⟨c0, c1, c2, c3, c4, c5⟩ := o.c6
      have z := o.z6
      have hwl2 : (opD d).waits.length ≤ 10000 := hwl
      have r3 : (opD d).waits.length + 1 ≤ maxLen := by unfold maxLen; omega
      have r4 : ((opD d).waits.length + 1) * 24 ≤ 140737488355328 := by omega
      clear hr hop
      go_wp2_with (at_builtin; go_must (refine wpList_append_own_at _ rfl (.tmp 24) (.tmp 28) 135 rfl lo 206 i0 (.agg #[.int .i64 0, .string ⟨#[]⟩]) 2 24 Tryz.underlying135 q0 q1 q2 q3 rfl (by decide) _ _ _ rfl (World.ownsRow.alloc hw _) ⟨w1.heap.size, 0, none⟩ 1 1 [.int .i64 i, .string (bs s)] rfl rfl ?_ ?_ ?_ ?_ ?_ ?_))
      · exact World.news_of_block (heap_alloc_new w1 _)
      · intro u hu; simp at hu; rcases hu with rfl | rfl <;> rfl
      · exact r3
      · exact r4
      · simp; omega
      intro v5 w5 o3 gr3 _ _
      obtain ⟨p5, c5', rfl⟩ := own_shape o3
      have o5 := own_grown (World.ownsRow.alloc hw _) gr3 (o.alloc _) (by decide)
      have os5 := own_grown (World.ownsRow.alloc hw _) gr3 (os.alloc _) (by decide)
      have hm5 := (hm.alloc (.cells #[.int .i64 i, .string (bs s)] 206)).block (gr3.block mb (hm.alloc _).lt (fun he => by have := (World.ownsRow.lt hw mb he.symm).1; omega))
      have hsz5 := gr3.size
      simp only [World.size_alloc] at hsz5
      obtain ⟨y0, y1, y2, y3, y4, y5⟩ := o5.c6
      have zy := o5.z6
      obtain ⟨gb, hg1, hg2⟩ := row_block hw k1 g5
      have hK5 : Kept [b, mb, gb] w w5 := ((k1.mono (T := [b, mb, gb]) (by simp)).alloc (.cells #[.int .i64 i, .string (bs s)] 206)).grown gr3 (fun j hj => Or.inl (by rw [hg1 j hj]; simp))
      clear c0 c1 c2 c3 c4 c5 z o os hm hw gr3
      obtain ⟨D, hown, hf⟩ := hm5.other (p := ⟨b, 1, none⟩) (by show mb ≠ b; omega) (.slice p5 ((opD d).waits.length + 1) c5')
      go_wp2_with (at_mapUpdate; go_must (refine wpList_mapUpdate_own _ rfl _ _ _ 136 rfl 3 9 intLaw Tryz.underlying136 _ mb n _ rfl hown ?_ _ _ _ rfl rfl (key_i64 i hi8) _ [] (plainElem_string Tryz.underlying9 hsm) ?_))
      · unfold maxLen; omega
      intro w7 hown7 gr7
      go_wp2_with fail
      go_ret
      have hk7 := (Kept.refl [mb] _).grown gr7 (fun k hk => Or.inl (by simp at hk; simp [hk]))
      have hsz7 := hk7.size
      have e : lastOf (d.waits ++ [(i, s)]) = fun j => if i = j then some s else lastOf d.waits j := funext fun j => lastOf_snoc _ _ _
      have o7 := hk7.own (o5.set 1 (.slice p5 ((opD d).waits.length + 1) c5')) (by simp; omega)
      have os7 := hk7.own (os5.other (p := ⟨b, 1, none⟩) (by show sb ≠ b; omega) (.slice p5 ((opD d).waits.length + 1) c5')) (by simp; omega)
      have hr7 := ownsRow_kept (ownsRow_other o3 (p := ⟨b, 1, none⟩) (own_row_ne o3 o5 (by decide)) (.slice p5 ((opD d).waits.length + 1) c5')) hk7 (by simp; omega)
      have hm7 := MapAt.put (w := w7) hown.isMap hf i hi8 s hown7
      have hsx : (w5.setCell ⟨b, 1, none⟩ (.slice p5 ((opD d).waits.length + 1) c5')).heap.size = w5.heap.size := by simp [World.setCell]
      have hlen : (d.waits ++ [(i, s)]).length = (opD d).waits.length + 1 := by simp [opD]
      have hdk : DKept b sb mb lo w w7 := DKept.of (((hK5.setCell (p := ⟨b, 1, none⟩) (Or.inl (by simp)) (.slice p5 ((opD d).waits.length + 1) c5')).trans (hk7.mono (by simp)))) (fun x hx => by
        simp at hx
        rcases hx with rfl | rfl | rfl
        · exact Or.inl rfl
        · exact Or.inr (Or.inr (Or.inl rfl))
        · rcases hg2 with h | h | h
          · exact Or.inl h
          · exact Or.inr (Or.inr (Or.inr (Or.inl h)))
          · exact Or.inr (Or.inr (Or.inr (Or.inr h))))
      refine ⟨rfl, ⟨.slice p5 ((opD d).waits.length + 1) c5', n + 1, o7, os7, ?_, ?_, ?_, g2, g3, g4, g5, by omega, g7, g8, g9, g10, g11⟩, hdk⟩
      · show w7.ownsRow lo _ 2 _ (d.waits ++ [(i, s)]).length (wcells (d.waits ++ [(i, s)]))
        rw [hlen, wcells_snoc]; exact hr7
      · show MapAt w7 mb (n + 1) (lastOf (d.waits ++ [(i, s)]))
        rw [e]; exact hm7
      · show n + 1 ≤ (d.waits ++ [(i, s)]).length
        rw [hlen]; omega
  by_cases hf : d.fuse = 0
  · have := key true 90 (decide_eq_true hf) (if_pos hf) (Or.inl ⟨rfl, rfl⟩)
    rw [if_pos hf]; exact this
  · have := key false 0 (decide_eq_false hf) (if_neg hf) (Or.inr ⟨rfl, rfl⟩)
    rw [if_neg hf]; exact this
end Go.Proofs.YtdkimcnlhmhpgaaGreat

/- -/
namespace Go.Proofs.YtdkimcnlhmhpgaaGreat
open Go.RowKit Go.Maps Go.ChangeMaps
theorem MapAt.clears {w : World} {mb n : Nat} {f : Nat → Option (List UInt8)} (h : MapAt w mb n f) (ty : TypeId) :
    ∃ w', (Builtin.clear_ #[136] ty #[.map (some mb)]).run Tryz.prog w = .ok (.tuple #[]) w' ∧ MapAt w' mb 0 (fun _ => none) ∧ Kept [mb] w w' := by
  obtain ⟨D, hown, hf⟩ := h
  obtain ⟨es, clock, hb, F, hs, rfl⟩ := hown
  have hrun : (Builtin.clear_ #[136] ty #[.map (some mb)]).run Tryz.prog w = .ok (.tuple #[]) (setBlock w mb (.map #[] clock)) := by
    simp [Builtin.clear_, run_underlying Tryz.underlying136, MapKept.run_getObj_map hb, MapKept.run_setObj_map _ hb, Result.andThen, setBlock]
  have ht : w.mapTurned (setBlock w mb (.map #[] clock)) mb := ⟨es, clock, #[], clock, hb, rfl⟩
  refine ⟨_, hrun, ⟨.map [], ⟨#[], clock, heap_setBlock_same hb _, ⟨by simp, MapKept.stamped_empty clock, by simp⟩, Nat.le_refl _, rfl⟩, fun i _ => ⟨rfl, fun s h => by cases h⟩⟩, ?_⟩
  exact (Kept.refl [mb] w).grown ht.grown (fun k hk => Or.inl (by simp at hk; simp [hk]))
theorem dAll (i : Int) (w : World) : Calls Tryz.prog 91 #[.int .i64 i] w fun e w' => e = .returned (.bool true) ∧ w = w' := by
  go_enter Tryz.func91, Tryz.ntmps91
  go_wp2_with fail
  go_ret
  exact ⟨rfl, rfl⟩
def BoolsIn (w : World) (v : Value) (l : List Bool) (lo hi : Nat) : Prop :=
  (l = [] ∧ ∃ a c, v = .slice a 0 c) ∨
  ∃ b off c, v = .slice (some ⟨b, off, none⟩) l.length c ∧ (∀ i (h : i < l.length), w.cell? ⟨b, off + i, none⟩ = some (.bool l[i])) ∧ lo ≤ b ∧ b < hi ∧ hi ≤ w.heap.size ∧ l ≠ [] ∧ l.length ≤ c ∧ c ≤ maxLen
theorem BoolsIn.kept {S : List Nat} {w w' : World} {v : Value} {l : List Bool} {lo hi : Nat} (h : BoolsIn w v l lo hi) (k : Kept S w w') (hS : ∀ x ∈ S, x < lo ∨ hi ≤ x) : BoolsIn w' v l lo hi := by
  rcases h with h | ⟨b, off, c, h1, h2, h3, h4, h5, h6⟩
  · exact Or.inl h
  · refine Or.inr ⟨b, off, c, h1, fun i hi => ?_, h3, h4, Nat.le_trans h5 k.size, h6⟩
    rw [k.cell (by show b < _; omega) (fun hb => by have := hS b hb; omega)]
    exact h2 i hi
def kept (l : List Bool) (i : Nat) : Bool := l.getD i false
end Go.Proofs.YtdkimcnlhmhpgaaGreat

/- -/
namespace Go.Proofs.YtdkimcnlhmhpgaaGreat
open Go.RowKit Go.Maps
def sk (st : List (List UInt8)) (ws : List (Nat × List UInt8)) (keep : Nat → Bool) : Nat → List (List UInt8)
  | 0 => st
  | k + 1 => if keep k then (sk st ws keep k).set (ws.getD k (0, [])).1 (ws.getD k (0, [])).2 else sk st ws keep k
theorem sk_len (st : List (List UInt8)) (ws : List (Nat × List UInt8)) (keep : Nat → Bool) (k : Nat) : (sk st ws keep k).length = st.length := by
  induction k with
  | zero => rfl
  | succ k ih => unfold sk; split
                 · rw [List.length_set, ih]
                 · exact ih
theorem sk_succ (st : List (List UInt8)) (ws : List (Nat × List UInt8)) (keep : Nat → Bool) (k : Nat) (h : k < ws.length) : sk st ws keep (k + 1) = if keep k then (sk st ws keep k).set ws[k].1 ws[k].2 else sk st ws keep k := by
  have e : ws.getD k (0, []) = ws[k] := by rw [List.getD_eq_getElem?_getD, List.getElem?_eq_getElem h]; rfl
  rw [sk, e]
theorem scells_set (l : List (List UInt8)) (i : Nat) (s : List UInt8) : (scells l).setIfInBounds i (.string (bs s)) = scells (l.set i s) := by
  unfold scells; simp [List.map_set]
theorem wcells_get (l : List (Nat × List UInt8)) (i : Nat) (h : i < l.length) : (wcells l)[i * 2]? = some (.int .i64 (l[i].1 : Int)) ∧ (wcells l)[i * 2 + 1]? = some (.string (bs l[i].2)) := by
  induction l generalizing i with
  | nil => simp at h
  | cons a l ih =>
    cases i with
    | zero => exact ⟨rfl, rfl⟩
    | succ i =>
      have e : wcells (a :: l) = Value.int .i64 (a.1 : Int) :: Value.string (bs a.2) :: wcells l := rfl
      rw [e]
      have := ih i (by simpa using h)
      have e1 : (i + 1) * 2 = i * 2 + 1 + 1 := by omega
      have e2 : (i + 1) * 2 + 1 = i * 2 + 1 + 1 + 1 := by omega
      rw [e1, List.getElem?_cons_succ, List.getElem?_cons_succ, List.getElem?_cons_succ, List.getElem?_cons_succ]
      simpa using this
def settleD (d : DK) (keep : Nat → Bool) : DK := ⟨sk d.stand d.waits keep d.waits.length, [], d.fuse, d.ops, d.down⟩
theorem lt_of_cell {w : World} {g j : Nat} {v : Value} (h : w.cell? ⟨g, j, none⟩ = some v) : g < w.heap.size := World.block_lt_of_cell? _ _ h
set_option maxRecDepth 100000 in
set_option maxHeartbeats 2000000 in
theorem dSettleAll (b sb mb lo : Nat) (d : DK)  (w : World) (h : DiskAt w b sb mb lo d) (hfine : ∀ x ∈ d.waits, x.1 < d.stand.length) (hwl : d.waits.length ≤ 10000)  :
    Calls Tryz.prog 75 #[.pointer (some ⟨b, 0, none⟩), .func (.func 91) #[] #[]] w fun e w' => e = .returned (.tuple #[]) ∧ DiskAt w' b sb mb lo (settleD d (fun _ => true)) ∧ DKept b sb mb lo w w' := by
  obtain ⟨wv, n, o, os, hw, hm, hn, g2, g3, g4, g5, g6, g7, g8, g9, g10, g11⟩ := h
  obtain ⟨p, c, rfl⟩ := own_shape hw
  obtain ⟨c0, c1, c2, c3, c4, c5⟩ := o.c6
  obtain ⟨st, ws, fu, op, dn⟩ := d
  simp only at *
  go_enter Tryz.func75, Tryz.ntmps75
  go_wp2_with fail
  go_loopw [11] (fun i wr => ∃ k : Nat, k ≤ ws.length ∧ i = .int .i64 k ∧ Own wr sb (scells (sk st ws (fun _ => true) k)) 9 ∧ Kept [sb] w wr) (fun i _ => ws.length - (intOf i).toNat)
  case atStart => exact ⟨0, by omega, rfl, os, Kept.refl _ _⟩
  case round =>
    obtain ⟨k, hk, rfl, os2, hK⟩ := hrel
    have o2 := hK.own o (by simp; omega)
    have hw2 := ownsRow_kept hw hK (by simp; omega)
    by_cases hlt : k < ws.length
    · obtain ⟨gw, rfl, hgw⟩ : ∃ gw, p = some ⟨gw, 0, none⟩ ∧ lo ≤ gw := by
        rcases hw2.2 with ⟨e1, e2⟩ | ⟨g', cap, cur, e1, hge, _⟩
        · omega
        · injection e1 with e1
          exact ⟨g', e1, hge⟩
      obtain ⟨q1, q2⟩ := wcells_get ws k hlt
      have w1c := World.ownsRow.cells hw2 rfl (k * 2) _ q1
      have w2c := World.ownsRow.cells hw2 rfl (k * 2 + 1) _ q2
      rw [Go.WideShapes.add_plain, Nat.zero_add] at w1c w2c
      have hat : ws[k].1 < st.length := hfine _ (List.getElem_mem _)
      have hsl : (sk st ws (fun _ => true) k).length = st.length := sk_len _ _ _ _
      have hstep := sk_succ st ws (fun _ => true) k hlt
      obtain ⟨d0, d1, d2, d3, d4, d5⟩ := o2.c6
      have hgs : gw < wr.heap.size := lt_of_cell w1c
      have hsbl := os2.lt
      have HST := Lib.hid hstep
      have HLT := Lib.hid hlt
      have HSL := Lib.hid hsl
      clear hstep hsl q1 q2 c0 c1 c2 c3 c4 c5
      generalize ws[k].1 = at1 at *
      generalize ws[k].2 = dt at *
      have i1 : (at1 : Int) < st.length := by omega
      have ot := Own.new wr #[.int .i64 (at1 : Int), .string (bs dt)] 206
      have os3 := os2.alloc (.cells #[.int .i64 (at1 : Int), .string (bs dt)] 206)
      have o3 := o2.alloc (.cells #[.int .i64 (at1 : Int), .string (bs dt)] 206)
      have hK3 := hK.alloc (.cells #[.int .i64 (at1 : Int), .string (bs dt)] 206)
      obtain ⟨e0, e1, e2, e3, e4, e5⟩ := o3.c6
      obtain ⟨f0, f1⟩ := ot.c2
      have hsize : at1 < (scells (sk st ws (fun _ => true) k)).size := by simp [scells, HSL.out]; exact hat
      obtain ⟨v0, s0⟩ : ∃ v0, (wr.alloc (.cells #[.int .i64 (at1 : Int), .string (bs dt)] 206)).cell? ⟨sb, at1, none⟩ = some v0 := ⟨_, os3.cell at1 hsize⟩
      have zs := os3.free at1
      go_wp2_with fail
      refine (dAll _ _).mono ?_; rintro e w' ⟨rfl, rfl⟩
      go_wp2_with fail
      go_region
      have hfin : Own ((wr.setCell ⟨sb, at1, none⟩ (.string (bs dt))).alloc (.cells #[.int .i64 (at1 : Int), .string (bs dt)] 206)).drew sb (scells (sk st ws (fun _ => true) (k + 1))) 9 := by
        rw [HST.out]
        simp only [if_true]
        rw [← scells_set]
        exact ((os2.set at1 _).alloc _).drew
      have hkf := ((hK.setCell (p := ⟨sb, at1, none⟩) (Or.inl (by simp)) (.string (bs dt))).alloc (.cells #[.int .i64 (at1 : Int), .string (bs dt)] 206)).drew
      go_wp2_with fail
      go_roundw
      case rel => exact ⟨k + 1, HLT.out, by go_num, hfin, hkf⟩
      case measure => (have hh := HLT.out; simp [intOf]; omega)
    · obtain rfl : k = ws.length := by omega
      obtain ⟨d0, d1, d2, d3, d4, d5⟩ := o2.c6
      have z2 := o2.z6
      have hm2 := hm.kept hK (by simp; omega)
      have hm3 := hm2.other (p := ⟨b, 1, none⟩) (by show mb ≠ b; omega) (.slice none 0 0)
      have os3 := os2.other (p := ⟨b, 1, none⟩) (by show sb ≠ b; omega) (.slice none 0 0)
      have o3 := o2.set 1 (.slice none 0 0)
      have hsx : (wr.setCell ⟨b, 1, none⟩ (.slice none 0 0)).heap.size = wr.heap.size := by simp [World.setCell]
      have hk3 := (hK.mono (T := [sb, b, mb]) (by simp)).setCell (p := ⟨b, 1, none⟩) (Or.inl (by simp)) (.slice none 0 0)
      have hlen : (sk st ws (fun _ => true) ws.length).length = st.length := sk_len _ _ _ _
      obtain ⟨w7, hrun7, hm7, hk7⟩ := hm3.clears 0
      go_wp2_with fail
      go_end0
      have hsz7 := hk7.size
      have hszK := hK.size
      refine ⟨rfl, ⟨.slice none 0 0, 0, ?_, hk7.own os3 (by simp; omega), World.ownsRow_nil _ _ _ _, hm7, Nat.le_refl _, g2, g3, g4, g5, by omega, ?_, ?_, g9, g10, g11⟩, ?_⟩
      · have := hk7.own o3 (by simp; omega)
        show Own w7 b #[.slice (some ⟨sb, 0, none⟩) (sk st ws (fun _ => true) ws.length).length (sk st ws (fun _ => true) ws.length).length, _, _, _, _, _] _
        rw [hlen]; exact this
      · show 1 ≤ (sk st ws (fun _ => true) ws.length).length
        rw [hlen]; exact g7
      · show (sk st ws (fun _ => true) ws.length).length ≤ 8192
        rw [hlen]; exact g8
      · exact DKept.of (hk3.trans (hk7.mono (by simp))) (fun x hx => by
          simp at hx
          rcases hx with rfl | rfl | rfl
          · exact Or.inr (Or.inl rfl)
          · exact Or.inl rfl
          · exact Or.inr (Or.inr (Or.inl rfl)))
theorem DKept.refl (b sb mb lo : Nat) (w : World) : DKept b sb mb lo w w := ⟨rfl, rfl, rfl, Nat.le_refl _, fun _ _ _ _ _ _ => rfl⟩
theorem DKept.trans {b sb mb lo : Nat} {a w w' : World} (h : DKept b sb mb lo a w) (k : DKept b sb mb lo w w') : DKept b sb mb lo a w' := by
  obtain ⟨h1, h2, h3, h4, h5⟩ := h
  obtain ⟨k1, k2, k3, k4, k5⟩ := k
  refine ⟨k1.trans h1, k2.trans h2, k3.trans h3, Nat.le_trans h4 k4, fun j hj e1 e2 e3 e4 => ?_⟩
  have := h5 j hj e1 e2 e3 e4
  rw [← this]
  exact k5 j (Nat.lt_of_lt_of_le hj h4) e1 e2 e3 (by rw [this]; exact e4)
theorem DKept.kept {S : List Nat} {b sb mb lo : Nat} {w w' : World} (h : Kept S w w') (hS : ∀ x ∈ S, x = b ∨ x = sb ∨ x = mb) : DKept b sb mb lo w w' :=
  DKept.of h (fun x hx => by
    rcases hS x hx with h | h | h
    · exact Or.inl h
    · exact Or.inr (Or.inl h)
    · exact Or.inr (Or.inr (Or.inl h)))
theorem dFlush_down (b sb mb lo : Nat) (d : DK) (w : World) (h : DiskAt w b sb mb lo d) (hd : d.down = true) : Calls Tryz.prog 39 #[.pointer (some ⟨b, 0, none⟩)] w fun e w' => e = .returned (.int .i64 90) ∧ w = w' := by
  have hr := dReady b sb mb lo d w h
  unfold readyOf at hr
  rw [hd] at hr
  simp only [if_true] at hr
  go_enter Tryz.func39, Tryz.ntmps39
  go_wp2_with fail
  refine hr.mono ?_; rintro e w' ⟨rfl, rfl⟩
  go_wp2_with fail
  go_ret
  exact ⟨rfl, rfl⟩
theorem dFlush_cut (b sb mb lo : Nat) (d : DK) (w : World) (h : DiskAt w b sb mb lo d) (hd : d.down = false) (hf : d.fuse = 0) (ho : d.ops < 100000) : Calls Tryz.prog 39 #[.pointer (some ⟨b, 0, none⟩)] w fun e w' => e = .returned (.int .i64 90) ∧ DiskAt w' b sb mb lo (opD d) ∧ DKept b sb mb lo w w' := by
  have hr := dReady b sb mb lo d w h
  have hop := dOperate b sb mb lo d w h ho
  unfold readyOf at hr
  rw [hd] at hr
  rw [decide_eq_true hf] at hop
  simp only [Bool.false_eq_true, if_false] at hr
  clear h hd hf
  go_enter Tryz.func39, Tryz.ntmps39
  go_wp2_with fail
  refine hr.mono ?_; rintro e w' ⟨rfl, rfl⟩
  go_wp2_with fail
  refine hop.mono ?_; rintro e w1 ⟨rfl, h1, k1⟩
  go_wp2_with fail
  go_ret
  exact ⟨rfl, h1, DKept.kept k1 (fun x hx => Or.inl (by simpa using hx))⟩
theorem dFlush (b sb mb lo : Nat) (d : DK) (w : World) (h : DiskAt w b sb mb lo d) (hd : d.down = false) (hf : d.fuse ≠ 0) (ho : d.ops < 100000) (hfine : ∀ x ∈ d.waits, x.1 < d.stand.length) (hwl : d.waits.length ≤ 10000) :
    Calls Tryz.prog 39 #[.pointer (some ⟨b, 0, none⟩)] w fun e w' => e = .returned (.int .i64 0) ∧ DiskAt w' b sb mb lo (settleD (opD d) (fun _ => true)) ∧ DKept b sb mb lo w w' := by
  have hr := dReady b sb mb lo d w h
  have hop := dOperate b sb mb lo d w h ho
  have hset := fun W (hW : DiskAt W b sb mb lo (opD d)) => dSettleAll b sb mb lo (opD d) W hW hfine hwl
  unfold readyOf at hr
  rw [hd] at hr
  rw [decide_eq_false hf] at hop
  simp only [Bool.false_eq_true, if_false] at hr
  clear h hd hf
  have HSET := Lib.hid hset
  clear hset
  go_enter Tryz.func39, Tryz.ntmps39
  go_wp2_with fail
  refine hr.mono ?_; rintro e w' ⟨rfl, rfl⟩
  go_wp2_with fail
  refine hop.mono ?_; rintro e w1 ⟨rfl, h1, k1⟩
  go_wp2_with fail
  refine (HSET.out _ h1).mono ?_; rintro e w2 ⟨rfl, h2, k2⟩
  go_wp2_with fail
  go_ret
  exact ⟨rfl, h2, (DKept.kept k1 (fun x hx => Or.inl (by simpa using hx))).trans k2⟩
theorem BoolsIn.shape {w : World} {v : Value} {l : List Bool} {lo hi : Nat} (h : BoolsIn w v l lo hi) : ∃ p c, v = .slice p l.length c := by
  rcases h with ⟨rfl, a, c, rfl⟩ | ⟨b, off, c, rfl, _⟩
  · exact ⟨a, c, rfl⟩
  · exact ⟨_, c, rfl⟩
theorem DiskAt.keep {S : List Nat} {w w' : World} {b sb mb lo : Nat} {d : DK} (h : DiskAt w b sb mb lo d) (k : Kept S w w') (hS : ∀ x ∈ S, x < lo ∧ x ≠ b ∧ x ≠ sb ∧ x ≠ mb) : DiskAt w' b sb mb lo d := by
  obtain ⟨wv, n, o, os, hwr, hm, hn, h2, h3, h4, h5, h6, r⟩ := h
  exact ⟨wv, n, k.own o (fun hx => (hS _ hx).2.1 rfl), k.own os (fun hx => (hS _ hx).2.2.1 rfl), ownsRow_kept hwr k (fun x hx => (hS x hx).1), hm.kept k (fun hx => (hS _ hx).2.2.2 rfl), hn, h2, h3, h4, h5, Nat.le_trans h6 k.size, r⟩
def fuseD (d : DK) (n : Int) : DK := ⟨d.stand, d.waits, max n (-1), d.ops, d.down⟩
set_option maxRecDepth 100000 in
theorem dFuse (b sb mb lo : Nat) (d : DK) (n : Int) (w : World) (h : DiskAt w b sb mb lo d) (hn : n ≤ 9223372036854775807) :
    Calls Tryz.prog 31 #[.pointer (some ⟨b, 0, none⟩), .int .i64 n] w fun e w' => e = .returned (.tuple #[]) ∧ DiskAt w' b sb mb lo (fuseD d n) ∧ Kept [b] w w' := by
  obtain ⟨p2, c2, y0, y1, y2, y3, y4, y5, _, _, ho⟩ := h.six
  have z : w.frozen? ⟨b, 3, none⟩ = false := by obtain ⟨_, _, o, _⟩ := h; exact o.free 3
  have kk := (Kept.refl [b] w).setCell (p := ⟨b, 3, none⟩) (Or.inl (by simp)) (.int .i64 (max n (-1)))
  have hD := DiskAt.nums (d' := fuseD d n) h kk rfl rfl (by show (-1 : Int) ≤ max n (-1); omega) (by show max n (-1) ≤ (9223372036854775807 : Int); omega) ho (fun v0 v1 v2 o => o.set 3 _)
  have HD := Lib.hid hD
  have HD0 := HD
  have kk0 := kk
  clear hD h ho
  rcases (by omega : n < -1 ∨ n = -1 ∨ -1 < n) with h1 | h1 | h1
  · have em : max n (-1) = -1 := by omega
    have h2 : n ≤ -1 := by omega
    rw [em] at kk HD
    clear em
    go_enter Tryz.func31, Tryz.ntmps31
    go_wp2_with fail
    all_goals first
      | (exfalso; omega)
      | (go_end0; (first | exact ⟨rfl, HD.out, kk⟩ | exact ⟨rfl, HD0.out, kk0⟩))
  · subst h1
    have em : max (-1 : Int) (-1) = -1 := by omega
    rw [em] at kk HD
    clear em
    go_enter Tryz.func31, Tryz.ntmps31
    go_wp2_with fail
    all_goals (go_end0; (first | exact ⟨rfl, HD.out, kk⟩ | exact ⟨rfl, HD0.out, kk0⟩))
  · have em : max n (-1) = n := by omega
    have h2 : ¬ (n ≤ -1) := by omega
    rw [em] at kk HD
    clear em
    go_enter Tryz.func31, Tryz.ntmps31
    go_wp2_with fail
    all_goals first
      | (exfalso; omega)
      | (go_end0; (first | exact ⟨rfl, HD.out, kk⟩ | exact ⟨rfl, HD0.out, kk0⟩))
theorem rep_zero (k : Nat) : Lib.repeatL [0] k = List.replicate k 0 := by
  induction k with
  | zero => rfl
  | succ k ih => rw [Lib.repeatL, ih]; rfl
def zeroS : List UInt8 := List.replicate 128 0
theorem dRep (w : World) : Calls Tryz.prog 34 #[.string { data := #[0] }, .int .i64 128] w fun e w' => e = .returned (.string (bs zeroS)) ∧ Kept [] w w' := by
  have h := Tryz.strings_Repeat { data := #[0] } 128 w (by omega) (by show 1 * 128 ≤ _; omega)
  have e : (⟨(Lib.repeatL (ByteArray.mk #[0]).data.toList 128).toArray⟩ : ByteArray) = bs zeroS := by
    show bs (Lib.repeatL [0] 128) = _
    rw [rep_zero]; rfl
  rw [e] at h
  exact h.mono fun e w' hh => ⟨hh.1, Kept.of_below hh.2⟩
def newD (st : List (List UInt8)) : DK := ⟨st, [], -1, 0, false⟩
theorem dMade (sb : Nat) (st : List (List UInt8)) (w : World) (o : Own w sb (scells st) 9) (h1 : 1 ≤ st.length) (h2 : st.length ≤ 8192) :
    Calls Tryz.prog 35 #[.slice (some ⟨sb, 0, none⟩) st.length st.length] w fun e w' => e = .returned (.pointer (some ⟨w.heap.size + 1, 0, none⟩)) ∧ DiskAt w' (w.heap.size + 1) sb w.heap.size (w.heap.size + 2) (newD st) ∧ Kept [] w w' := by
  have hmm := @run_makeMap Tryz.prog
  have hlt := o.lt
  have hm := (MapAt.made w).alloc (.cells #[.slice (some ⟨sb, 0, none⟩) st.length st.length, .slice none 0 0, .map (some w.heap.size), .int .i64 (-1), .int .i64 0, .bool false] 138)
  have ob := Own.new (w.alloc (.map #[] 0)) #[.slice (some ⟨sb, 0, none⟩) st.length st.length, .slice none 0 0, .map (some w.heap.size), .int .i64 (-1), .int .i64 0, .bool false] 138
  rw [World.size_alloc] at ob
  have os := (o.alloc (.map #[] 0)).alloc (.cells #[.slice (some ⟨sb, 0, none⟩) st.length st.length, .slice none 0 0, .map (some w.heap.size), .int .i64 (-1), .int .i64 0, .bool false] 138)
  go_enter Tryz.func35, Tryz.ntmps35
  go_wp2_with fail
  go_ret
  refine ⟨rfl, ⟨.slice none 0 0, 0, ob, os, World.ownsRow_nil _ _ _ _, hm, Nat.le_refl _, ?_, ?_, ?_, ?_, ?_, h1, h2, ?_, ?_, ?_⟩, ((Kept.refl _ _).alloc _).alloc _⟩
  · omega
  · omega
  · omega
  · omega
  · simp
  · show (-1 : Int) ≤ -1; omega
  · show (-1 : Int) ≤ 9223372036854775807; omega
  · exact Nat.zero_le _
def fillTo (n k : Nat) : List (List UInt8) := List.replicate k zeroS ++ List.replicate (n - k) []
theorem fillTo_len (n k : Nat) (h : k ≤ n) : (fillTo n k).length = n := by unfold fillTo; rw [List.length_append, List.length_replicate, List.length_replicate]; omega
theorem fillTo_succ (n k : Nat) (h : k < n) : (fillTo n k).set k zeroS = fillTo n (k + 1) := by
  unfold fillTo
  rw [List.set_append_right _ _ (by simp)]
  have e : n - k = (n - (k + 1)) + 1 := by omega
  rw [e, List.replicate_succ, List.length_replicate, Nat.sub_self, List.set_cons_zero, List.replicate_succ']
  simp
theorem infoStr : ∃ i, Tryz.prog.info? 9 = some i ∧ i.zero = some (.string ⟨#[]⟩) ∧ i.size = 1 ∧ i.bytes = 16 := by
  have hi : (Tryz.prog.info? 9).map (fun i => (i.zero, i.size, i.bytes)) = some (some (.string ⟨#[]⟩), 1, 16) := by kernel_rfl
  obtain ⟨i0, hi0, hz0, hz1, hz2⟩ := info_parts hi
  exact ⟨i0, hi0, hz0, hz1, hz2⟩
theorem run_make_strs (n : Nat) (hn : n ≤ 8192) (w : World) : (Instr.makeSlice 76 (.int .i64 n) (.int .i64 n)).run Tryz.prog w = .ok (.slice (some ⟨w.heap.size, 0, none⟩) n n) (w.alloc (.cells (scells (fillTo n 0)) 9)) := by
  obtain ⟨i0, h1, h2, h3, h4⟩ := infoStr
  rw [run_make_rep (P := Tryz.prog) 76 9 i0 (.string ⟨#[]⟩) Tryz.underlying76 h1 h2 h3 rfl n (by rw [h4]; omega) (by omega) w]
  have e : Array.replicate n (Value.string ⟨#[]⟩) = scells (fillTo n 0) := by
    unfold scells fillTo
    apply Array.toList_inj.1
    simp [bs]
  rw [e]
set_option maxRecDepth 100000 in
set_option maxHeartbeats 1000000 in
theorem dNew (n : Nat) (w : World) (h1 : 1 ≤ n) (h2 : n ≤ 8192) :
    Calls Tryz.prog 9 #[.int .i64 n] w fun e w' => ∃ b sb mb lo, e = .returned (.tuple #[.pointer (some ⟨b, 0, none⟩), .int .i64 0]) ∧ DiskAt w' b sb mb lo (newD (List.replicate n zeroS)) ∧ w.heap.size ≤ sb ∧ w.heap.size ≤ mb ∧ w.heap.size ≤ b ∧ Kept [] w w' := by
  have hmk := run_make_strs n h2
  have o := Own.new w (scells (fillTo n 0)) 9
  have i1 : (1 : Int) ≤ n := by omega
  have i2 : (n : Int) ≤ 8192 := by omega
  go_enter Tryz.func9, Tryz.ntmps9
  go_wp2_with fail
  go_loopw [16] (fun i wr => ∃ k : Nat, k ≤ n ∧ i = .int .i64 k ∧ Own wr w.heap.size (scells (fillTo n k)) 9 ∧ Kept [] w wr) (fun i _ => n - (intOf i).toNat)
  case atStart => exact ⟨0, by omega, rfl, o, (Kept.refl _ _).alloc _⟩
  case round =>
    obtain ⟨k, hk, rfl, os, hK⟩ := hrel
    by_cases hlt : k < n
    · have HLT := Lib.hid hlt
      go_wp2_with fail
      refine (dRep _).mono ?_; rintro e w1 ⟨rfl, k1⟩
      have os1 := k1.own os (by simp)
      have hsize : k < (scells (fillTo n k)).size := by simp [scells, fillTo_len n k hk]; exact hlt
      obtain ⟨v0, s0⟩ : ∃ v0, w1.cell? ⟨w.heap.size, k, none⟩ = some v0 := ⟨_, os1.cell k hsize⟩
      have zs := os1.free k
      have hfin : Own (w1.setCell ⟨w.heap.size, k, none⟩ (.string (bs zeroS))) w.heap.size (scells (fillTo n (k + 1))) 9 := by
        rw [← fillTo_succ n k hlt, ← scells_set]
        exact os1.set k _
      have hkf := (hK.trans k1).setCell (p := ⟨w.heap.size, k, none⟩) (Or.inr (Nat.le_refl _)) (.string (bs zeroS))
      have HF := Lib.hid hfin
      clear hfin os os1 hsize o
      generalize zeroS = Z at *
      go_wp2_with fail
      go_roundw
      case rel => exact ⟨k + 1, HLT.out, by go_num, HF.out, hkf⟩
      case measure => (have hh := HLT.out; simp [intOf]; omega)
    · obtain rfl : k = n := by omega
      have e0 : fillTo k k = List.replicate k zeroS := by unfold fillTo; rw [Nat.sub_self]; simp
      rw [e0] at os
      have hmd := dMade w.heap.size (List.replicate k zeroS) wr os (by rw [List.length_replicate]; exact h1) (by rw [List.length_replicate]; exact h2)
      rw [List.length_replicate] at hmd
      have hsz := hK.size
      have HM := Lib.hid hmd
      clear hmd os
      go_wp2_with fail
      refine HM.out.mono ?_; rintro e w2 ⟨rfl, hD, k2⟩
      go_wp2_with fail
      go_ret2
      exact ⟨_, _, _, _, rfl, hD, Nat.le_refl _, hsz, by omega, hK.trans k2⟩
end Go.Proofs.YtdkimcnlhmhpgaaGreat

/- -/
namespace Go.Proofs.YtdkimcnlhmhpgaaGreat
open Go.RowKit
theorem Kept.then_below {a w w' : World} (h : Kept [] a w) (hb : Below a.heap.size w w') : Kept [] a w' :=
  ⟨hb.os.trans h.os, hb.tape.trans h.tape, hb.output.trans h.output, Nat.le_trans h.size hb.size, fun k hk _ => (hb.block k hk).trans (h.block k hk (by simp))⟩
theorem run_make_bytes128 (w : World) : (Instr.makeSlice 61 (.int .i64 128) (.int .i64 128)).run Tryz.prog w = .ok (.slice (some ⟨w.heap.size, 0, none⟩) 128 128) (w.alloc (.cells (Array.replicate 128 (.int .u8 0)) 5)) := by
  kernel_rfl
theorem run_conv128 (w : World) : (convert 61 9 (.slice (some ⟨w.heap.size, 0, none⟩) 128 128)).run Tryz.prog (w.alloc (.cells (Array.replicate 128 (.int .u8 0)) 5)) = .ok (.string (bs zeroS)) (w.alloc (.cells (Array.replicate 128 (.int .u8 0)) 5)) := by
  have ho := Own.new w (Array.replicate 128 (Value.int .u8 0)) 5
  have hb : Lib.Bytes (w.alloc (.cells (Array.replicate 128 (.int .u8 0)) 5)) w.heap.size 0 (bs zeroS) := by
    intro i hi
    have hi2 : i < 128 := by rw [bs_size] at hi; simpa [zeroS] using hi
    rw [Nat.zero_add, ho.cell i (by simp; exact hi2)]
    have hz : i < zeroS.length := by simpa [zeroS] using hi2
    have e0 : zeroS[i] = 0 := by unfold zeroS; exact List.getElem_replicate _
    rw [Array.getElem_replicate]
    refine congrArg some (congrArg (Value.int .u8) ?_)
    show (0 : Int) = ((zeroS[i]'hz).toNat : Int)
    rw [e0]; rfl
  have h := Lib.run_convert_whole (P := Tryz.prog) _ 61 5 9 Tryz.underlying61 Tryz.underlying5 Tryz.underlying9 w.heap.size 0 (bs zeroS) hb 128
  have e : (bs zeroS).size = 128 := by rw [bs_size]; exact List.length_replicate
  rw [e] at h
  exact h
end Go.Proofs.YtdkimcnlhmhpgaaGreat

/- -/
namespace Go.Proofs.YtdkimcnlhmhpgaaGreat
open Go.RowKit Go.Maps
theorem DKept.to_kept {b sb mb lo : Nat} {w w1 w' : World} (h : DKept b sb mb lo w1 w') (k : Kept [] w w1) (h1 : w.heap.size ≤ b) (h2 : w.heap.size ≤ sb) (h3 : w.heap.size ≤ mb) (h4 : w.heap.size ≤ lo) : Kept [] w w' := by
  obtain ⟨a1, a2, a3, a4, a5⟩ := h
  exact ⟨a1.trans k.os, a2.trans k.tape, a3.trans k.output, Nat.le_trans k.size a4, fun j hj _ => (a5 j (Nat.lt_of_lt_of_le hj k.size) (by omega) (by omega) (by omega) (Or.inl (by omega))).trans (k.block j hj (by simp))⟩
theorem BoolsIn.nil (w : World) : BoolsIn w (.slice none 0 0) [] 0 0 := Or.inl ⟨rfl, _, _, rfl⟩
end Go.Proofs.YtdkimcnlhmhpgaaGreat
