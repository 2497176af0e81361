/- Walks of layer 9 (disk): a write. -/
import Derived.Test.YtdnbddhjdokbfaaG14
namespace Go.Proofs.Ytdnbddhjdokbfaa
open Go.RowKit Go.Maps
set_option linter.unusedVariables false
set_option linter.unusedSimpArgs false

theorem infoWait : ∃ i, Try.prog.info? 97 = some i ∧ i.zero = some (.agg #[.int .i64 0, .string ⟨#[]⟩]) ∧ i.size = 2 ∧ i.bytes = 24 := by
  have hi : (Try.prog.info? 97).map (fun i => (i.zero, i.size, i.bytes)) = some (some (.agg #[.int .i64 0, .string ⟨#[]⟩]), 2, 24) := by kernel_rfl
  obtain ⟨i0, hi0, hz0, hz1, hz2⟩ := info_parts hi
  exact ⟨i0, hi0, hz0, hz1, hz2⟩
theorem wcells_snoc (l : List (Nat × List UInt8)) (x : Nat × List UInt8) : wcells (l ++ [x]) = wcells l ++ [.int .i64 (x.1 : Int), .string (bs x.2)] := by simp [wcells]
theorem dWrite_nil (i : Int) (s : ByteArray) (w : World) : Calls Try.prog 38 #[.pointer none, .int .i64 i, .string s] w fun e w' => e = .returned (.int .i64 4) ∧ w = w' := by
  go_enter Try.func38, Try.ntmps38
  go_wp2_with fail
  refine (dAt_nil _ _).mono ?_; rintro e w' ⟨rfl, rfl⟩
  go_wp2_with fail
  go_ret
  exact ⟨rfl, rfl⟩
theorem dWrite_no (b sb mb lo : Nat) (d : DK) (i : Int) (s : ByteArray) (w : World) (h : DiskAt w b sb mb lo d) (hno : atOf d i ≠ 0) : Calls Try.prog 38 #[.pointer (some ⟨b, 0, none⟩), .int .i64 i, .string s] w fun e w' => e = .returned (.int .i64 (atOf d i)) ∧ w = w' := by
  have hr := dAt b sb mb lo d i w h
  clear h
  generalize atOf d i = x at *
  have hx : (x == 0) = false := by simpa using hno
  clear hno
  go_enter Try.func38, Try.ntmps38
  go_wp2_with fail
  refine hr.mono ?_; rintro e w' ⟨rfl, rfl⟩
  go_wp2_with fail
  go_ret
  exact ⟨rfl, rfl⟩
theorem dWrite_len (b sb mb lo : Nat) (d : DK) (i : Int) (s : ByteArray) (w : World) (h : DiskAt w b sb mb lo d) (h0 : atOf d i = 0) (hs : s.size ≠ 128) : Calls Try.prog 38 #[.pointer (some ⟨b, 0, none⟩), .int .i64 i, .string s] w fun e w' => e = .returned (.int .i64 1) ∧ w = w' := by
  have hr := dAt b sb mb lo d i w h
  rw [h0] at hr
  clear h h0
  have hx : ((s.size : Int) == 128) = false := by rw [beq_eq_false_iff_ne]; omega
  clear hs
  go_enter Try.func38, Try.ntmps38
  go_wp2_with fail
  refine hr.mono ?_; rintro e w' ⟨rfl, rfl⟩
  go_wp2_with fail
  go_ret
  exact ⟨rfl, rfl⟩
/-- a write that waits. -/
def writeD (d : DK) (i : Nat) (s : List UInt8) : DK := ⟨d.stand, d.waits ++ [(i, s)], (opD d).fuse, d.ops + 1, (opD d).down⟩

/-- all stands but a disk's own. -/
def DKept (b sb mb lo : Nat) (w w' : World) : Prop :=
  w'.os = w.os ∧ w'.tape = w.tape ∧ w'.output = w.output ∧ w.heap.size ≤ w'.heap.size ∧ ∀ k, k < w.heap.size → k ≠ b → k ≠ sb → k ≠ mb → (k < lo ∨ ∀ cs f, w.heap[k]? ≠ some (.cells cs 97 f)) → w'.heap[k]? = w.heap[k]?
theorem DKept.of {S : List Nat} {b sb mb lo : Nat} {w w' : World} (h : Kept S w w') (hS : ∀ x ∈ S, x = b ∨ x = sb ∨ x = mb ∨ w.heap.size ≤ x ∨ (lo ≤ x ∧ ∃ cs f, w.heap[x]? = some (.cells cs 97 f))) : DKept b sb mb lo w w' :=
  ⟨h.os, h.tape, h.output, h.size, fun k hk h1 h2 h3 h4 => h.block k hk (fun hx => by
    rcases hS k hx with h5 | h5 | h5 | h5 | ⟨h6, cs, f, h5⟩
    · exact h1 h5
    · exact h2 h5
    · exact h3 h5
    · omega
    · rcases h4 with h4 | h4
      · omega
      · exact h4 cs f h5)⟩
theorem row_block {lo n b : Nat} {v : Value} {xs : List Value} {w w1 : World} (hw : w1.ownsRow lo 97 2 v n xs) (k1 : Kept [b] w w1) (hlo : b < lo) :
    ∃ g, (∀ j, v.ownBlock = some j → j = g) ∧ (g = b ∨ w.heap.size ≤ g ∨ (lo ≤ g ∧ ∃ cs f, w.heap[g]? = some (.cells cs 97 f))) := by
  cases hb : v.ownBlock with
  | none => exact ⟨b, (fun j hj => by cases hj), Or.inl rfl⟩
  | some g =>
    refine ⟨g, fun j hj => by injection hj with hj; exact hj.symm, ?_⟩
    rcases hw.2 with ⟨rfl, _⟩ | ⟨g', cap, cur, rfl, hge, hh, _⟩
    · simp [Value.ownBlock] at hb
    · have e : g' = g := by simpa [Value.ownBlock] using hb
      subst e
      by_cases hlt : g' < w.heap.size
      · exact Or.inr (Or.inr ⟨hge, cur, (0, 0), by rw [← k1.block g' hlt (by simp; omega)]; exact hh⟩)
      · exact Or.inr (Or.inl (by omega))
set_option maxRecDepth 100000 in
set_option maxHeartbeats 1000000 in
theorem dWrite (b sb mb lo : Nat) (d : DK) (i : Nat) (s : List UInt8) (w : World) (h : DiskAt w b sb mb lo d) (hd : d.down = false) (hi : i < d.stand.length) (hs : s.length = 128) (ho : d.ops < 100000) (hwl : d.waits.length ≤ 10000) :
    Calls Try.prog 38 #[.pointer (some ⟨b, 0, none⟩), .int .i64 i, .string (bs s)] w fun e w' => e = .returned (.int .i64 (if d.fuse = 0 then 90 else 0)) ∧ DiskAt w' b sb mb lo (writeD d i s) ∧ DKept b sb mb lo w w' := by
  have hr := dAt b sb mb lo d i w h
  have e0 : atOf d i = 0 := by unfold atOf; rw [hd, if_neg (by simp), if_neg (by omega)]
  rw [e0] at hr
  have hop := dOperate b sb mb lo d w h ho
  have hz : (bs s).size = 128 := by rw [bs_size, hs]
  have hsm : (bs s).size ≤ maxLen := by rw [hz]; decide
  have hi8 : i ≤ 8192 := by obtain ⟨_, _, _, _, _, _, _, _, _, _, _, _, _, h8, _⟩ := h; omega
  obtain ⟨i0, q0, q1, q2, q3⟩ := infoWait
  clear h e0 hd
  have HI := Lib.hid hi
  clear hi
  have key : ∀ (fb : Bool) (fc : Int), decide (d.fuse = 0) = fb → (if d.fuse = 0 then (90 : Int) else 0) = fc → (fb = true ∧ fc = 90 ∨ fb = false ∧ fc = 0) →
      Calls Try.prog 38 #[.pointer (some ⟨b, 0, none⟩), .int .i64 i, .string (bs s)] w fun e w' => e = .returned (.int .i64 fc) ∧ DiskAt w' b sb mb lo (writeD d i s) ∧ DKept b sb mb lo w w' := by
    intro fb fc hfb hfc hcases
    rw [hfb] at hop
    clear hfb hfc
    rcases hcases with ⟨rfl, rfl⟩ | ⟨rfl, rfl⟩
    all_goals
      go_enter Try.func38, Try.ntmps38
      go_wp2_with fail
      refine hr.mono ?_; rintro e w' ⟨rfl, rfl⟩
      go_wp2_with fail
      refine hop.mono ?_; rintro e w1 ⟨rfl, h1, k1⟩
      obtain ⟨wv, n, o, os, hw, hm, hn, g2, g3, g4, g5, g6, g7, g8, g9, g10, g11⟩ := h1
      obtain ⟨p, c, rfl⟩ := own_shape hw
      obtain ⟨c0, c1, c2, c3, c4, c5⟩ := o.c6
      have z := o.z6
      have hwl2 : (opD d).waits.length ≤ 10000 := hwl
      have r3 : (opD d).waits.length + 1 ≤ maxLen := by unfold maxLen; omega
      have r4 : ((opD d).waits.length + 1) * 24 ≤ 140737488355328 := by omega
      clear hr hop
      go_wp2_with (at_builtin; go_must (refine wpList_append_own_at _ rfl (.tmp 24) (.tmp 28) 79 rfl lo 97 i0 (.agg #[.int .i64 0, .string ⟨#[]⟩]) 2 24 Try.underlying79 q0 q1 q2 q3 rfl (by decide) _ _ _ rfl (World.ownsRow.alloc hw _) ⟨w1.heap.size, 0, none⟩ 1 1 [.int .i64 i, .string (bs s)] rfl rfl ?_ ?_ ?_ ?_ ?_ ?_))
      · exact World.news_of_block (heap_alloc_new w1 _)
      · intro u hu; simp at hu; rcases hu with rfl | rfl <;> rfl
      · exact r3
      · exact r4
      · simp; omega
      intro v5 w5 o3 gr3 _ _
      obtain ⟨p5, c5', rfl⟩ := own_shape o3
      have o5 := own_grown (World.ownsRow.alloc hw _) gr3 (o.alloc _) (by decide)
      have os5 := own_grown (World.ownsRow.alloc hw _) gr3 (os.alloc _) (by decide)
      have hm5 := (hm.alloc (.cells #[.int .i64 i, .string (bs s)] 97)).block (gr3.block mb (hm.alloc _).lt (fun he => by have := (World.ownsRow.lt hw mb he.symm).1; omega))
      have hsz5 := gr3.size
      simp only [World.size_alloc] at hsz5
      obtain ⟨y0, y1, y2, y3, y4, y5⟩ := o5.c6
      have zy := o5.z6
      obtain ⟨gb, hg1, hg2⟩ := row_block hw k1 g5
      have hK5 : Kept [b, mb, gb] w w5 := ((k1.mono (T := [b, mb, gb]) (by simp)).alloc (.cells #[.int .i64 i, .string (bs s)] 97)).grown gr3 (fun j hj => Or.inl (by rw [hg1 j hj]; simp))
      clear c0 c1 c2 c3 c4 c5 z o os hm hw gr3
      obtain ⟨D, hown, hf⟩ := hm5.other (p := ⟨b, 1, none⟩) (by show mb ≠ b; omega) (.slice p5 ((opD d).waits.length + 1) c5')
      go_wp2_with (at_mapUpdate; go_must (refine wpList_mapUpdate_own _ rfl _ _ _ 80 rfl 3 9 intLaw Try.underlying80 _ mb n _ rfl hown ?_ _ _ _ rfl rfl (key_i64 i hi8) _ [] (plainElem_string Try.underlying9 hsm) ?_))
      · unfold maxLen; omega
      intro w7 hown7 gr7
      go_wp2_with fail
      go_ret
      have hk7 := (Kept.refl [mb] _).grown gr7 (fun k hk => Or.inl (by simp at hk; simp [hk]))
      have hsz7 := hk7.size
      have e : lastOf (d.waits ++ [(i, s)]) = fun j => if i = j then some s else lastOf d.waits j := funext fun j => lastOf_snoc _ _ _
      have o7 := hk7.own (o5.set 1 (.slice p5 ((opD d).waits.length + 1) c5')) (by simp; omega)
      have os7 := hk7.own (os5.other (p := ⟨b, 1, none⟩) (by show sb ≠ b; omega) (.slice p5 ((opD d).waits.length + 1) c5')) (by simp; omega)
      have hr7 := ownsRow_kept (ownsRow_other o3 (p := ⟨b, 1, none⟩) (own_row_ne o3 o5 (by decide)) (.slice p5 ((opD d).waits.length + 1) c5')) hk7 (by simp; omega)
      have hm7 := MapAt.put (w := w7) hown.isMap hf i hi8 s hown7
      have hsx : (w5.setCell ⟨b, 1, none⟩ (.slice p5 ((opD d).waits.length + 1) c5')).heap.size = w5.heap.size := by simp [World.setCell]
      have hlen : (d.waits ++ [(i, s)]).length = (opD d).waits.length + 1 := by simp [opD]
      have hdk : DKept b sb mb lo w w7 := DKept.of (((hK5.setCell (p := ⟨b, 1, none⟩) (Or.inl (by simp)) (.slice p5 ((opD d).waits.length + 1) c5')).trans (hk7.mono (by simp)))) (fun x hx => by
        simp at hx
        rcases hx with rfl | rfl | rfl
        · exact Or.inl rfl
        · exact Or.inr (Or.inr (Or.inl rfl))
        · rcases hg2 with h | h | h
          · exact Or.inl h
          · exact Or.inr (Or.inr (Or.inr (Or.inl h)))
          · exact Or.inr (Or.inr (Or.inr (Or.inr h))))
      refine ⟨rfl, ⟨.slice p5 ((opD d).waits.length + 1) c5', n + 1, o7, os7, ?_, ?_, ?_, g2, g3, g4, g5, by omega, g7, g8, g9, g10, g11⟩, hdk⟩
      · show w7.ownsRow lo _ 2 _ (d.waits ++ [(i, s)]).length (wcells (d.waits ++ [(i, s)]))
        rw [hlen, wcells_snoc]; exact hr7
      · show MapAt w7 mb (n + 1) (lastOf (d.waits ++ [(i, s)]))
        rw [e]; exact hm7
      · show n + 1 ≤ (d.waits ++ [(i, s)]).length
        rw [hlen]; omega
  by_cases hf : d.fuse = 0
  · have := key true 90 (decide_eq_true hf) (if_pos hf) (Or.inl ⟨rfl, rfl⟩)
    rw [if_pos hf]; exact this
  · have := key false 0 (decide_eq_false hf) (if_neg hf) (Or.inr ⟨rfl, rfl⟩)
    rw [if_neg hf]; exact this
end Go.Proofs.Ytdnbddhjdokbfaa

/- Walks of layer 9 (disk): a map cleared; which writes are kept. -/
namespace Go.Proofs.Ytdnbddhjdokbfaa
open Go.RowKit Go.Maps Go.ChangeMaps
set_option linter.unusedVariables false
set_option linter.unusedSimpArgs false

theorem MapAt.clears {w : World} {mb n : Nat} {f : Nat → Option (List UInt8)} (h : MapAt w mb n f) (ty : TypeId) :
    ∃ w', (Builtin.clear_ #[80] ty #[.map (some mb)]).run Try.prog w = .ok (.tuple #[]) w' ∧ MapAt w' mb 0 (fun _ => none) ∧ Kept [mb] w w' := by
  obtain ⟨D, hown, hf⟩ := h
  obtain ⟨es, clock, hb, F, hs, rfl⟩ := hown
  have hrun : (Builtin.clear_ #[80] ty #[.map (some mb)]).run Try.prog w = .ok (.tuple #[]) (setBlock w mb (.map #[] clock)) := by
    simp [Builtin.clear_, run_underlying Try.underlying80, MapKept.run_getObj_map hb, MapKept.run_setObj_map _ hb, Result.andThen, setBlock]
  have ht : w.mapTurned (setBlock w mb (.map #[] clock)) mb := ⟨es, clock, #[], clock, hb, rfl⟩
  refine ⟨_, hrun, ⟨.map [], ⟨#[], clock, heap_setBlock_same hb _, ⟨by simp, MapKept.stamped_empty clock, by simp⟩, Nat.le_refl _, rfl⟩, fun i _ => ⟨rfl, fun s h => by cases h⟩⟩, ?_⟩
  exact (Kept.refl [mb] w).grown ht.grown (fun k hk => Or.inl (by simp at hk; simp [hk]))
theorem wpList_clear_map (w : World) {ops : Array Oper} {rest : List Oper} {o : Oper} {a : Act} {Q : Exit → Act → World → Prop} (hg : o.guard = none) (m : Operand) (hop : o.op = Op.call { callee := Callee.builtin Builtin.clear, args := #[m], argTypes := #[80] })
    (mb n : Nat) (f : Nat → Option (List UInt8)) (hm : a.eval m = .map (some mb)) (h : MapAt w mb n f) (hK : ∀ w', MapAt w' mb 0 (fun _ => none) → Kept [mb] w w' → wpList Try.prog ops Q rest (a.put o.dst (.tuple #[])) w') :
    wpList Try.prog ops Q (o :: rest) a w := by
  refine wpList_plain hg fun K' hK' => ?_
  obtain ⟨w', hrun, r1, r2⟩ := h.clears o.type
  unfold Oper.wp
  simp [execOp, hop, resolve, invoke, builtin, hm, hrun, Result.andThen]
  exact hK' _ _ (hK w' r1 r2)

theorem dAll (i : Int) (w : World) : Calls Try.prog 45 #[.int .i64 i] w fun e w' => e = .returned (.bool true) ∧ w = w' := by
  go_enter Try.func45, Try.ntmps45
  go_wp2_with fail
  go_ret
  exact ⟨rfl, rfl⟩
/-- the slice v reads as the bools l. -/
def BoolsIn (w : World) (v : Value) (l : List Bool) (lo hi : Nat) : Prop :=
  (l = [] ∧ ∃ a c, v = .slice a 0 c) ∨
  ∃ b off c, v = .slice (some ⟨b, off, none⟩) l.length c ∧ (∀ i (h : i < l.length), w.cell? ⟨b, off + i, none⟩ = some (.bool l[i])) ∧ lo ≤ b ∧ b < hi ∧ hi ≤ w.heap.size ∧ l ≠ [] ∧ l.length ≤ c ∧ c ≤ maxLen
theorem BoolsIn.kept {S : List Nat} {w w' : World} {v : Value} {l : List Bool} {lo hi : Nat} (h : BoolsIn w v l lo hi) (k : Kept S w w') (hS : ∀ x ∈ S, x < lo ∨ hi ≤ x) : BoolsIn w' v l lo hi := by
  rcases h with h | ⟨b, off, c, h1, h2, h3, h4, h5, h6⟩
  · exact Or.inl h
  · refine Or.inr ⟨b, off, c, h1, fun i hi => ?_, h3, h4, Nat.le_trans h5 k.size, h6⟩
    rw [k.cell (by show b < _; omega) (fun hb => by have := hS b hb; omega)]
    exact h2 i hi
/-- is the i-th kept? -/
def kept (l : List Bool) (i : Nat) : Bool := l.getD i false
theorem dChosen (g i : Nat) (v : Value) (l : List Bool) (lo hi : Nat) (w : World) (o : Own w g #[v] 77) (h : BoolsIn w v l lo hi) (hl : l.length ≤ maxLen) (hi' : i ≤ 1000000) :
    Calls Try.prog 66 #[.int .i64 i, .pointer (some ⟨g, 0, none⟩)] w fun e w' => e = .returned (.bool (kept l i)) ∧ w = w' := by
  have c0 := o.cell 0 (by simp)
  by_cases hlt : i < l.length
  · rcases h with ⟨rfl, _⟩ | ⟨b, off, c, rfl, h2, h3, h4, h5, h6, h7, h8⟩
    · simp at hlt
    · have hc := h2 i hlt
      have hk : kept l i = l[i] := by unfold kept; rw [List.getD_eq_getElem?_getD, List.getElem?_eq_getElem hlt]; rfl
      rw [hk]
      have i1 : (i : Int) < l.length := by omega
      simp only [List.getElem_toArray, List.getElem_cons_zero] at c0
      clear h2 hk o
      generalize l[i] = x at *
      generalize l.length = n at *
      go_enter Try.func66, Try.ntmps66
      go_wp2_with fail
      go_ret
      exact ⟨rfl, rfl⟩
  · have hk : kept l i = false := by unfold kept; rw [List.getD_eq_getElem?_getD, List.getElem?_eq_none (by omega)]; rfl
    rw [hk]
    have hs : ∃ p c, v = .slice p l.length c := by
      rcases h with ⟨rfl, a, c, rfl⟩ | ⟨b, off, c, rfl, _⟩
      · exact ⟨a, c, rfl⟩
      · exact ⟨_, c, rfl⟩
    obtain ⟨p, c, rfl⟩ := hs
    have i1 : ¬ ((i : Int) < l.length) := by omega
    simp only [List.getElem_toArray, List.getElem_cons_zero] at c0
    clear h o hk
    generalize l.length = n at *
    go_enter Try.func66, Try.ntmps66
    go_wp2_with fail
    go_ret
    exact ⟨rfl, rfl⟩
end Go.Proofs.Ytdnbddhjdokbfaa
