/- -/
import Derived.Test.YtdkimcnlhmhpgaaGreatRows
import Derived.Test.YtdkimcnlhmhpgaaGreatShelf
import Derived.Test.YtdkimcnlhmhpgaaGreatG01
import Derived.Test.YtdkimcnlhmhpgaaGreatG10
import Derived.Lib.ConvBytes
import Derived.Lib.SlBytesRow
import Derived.Deep.LoopGhost
import Derived.Shelf.Strings.Repeat
import Derived.Lib.Builder
set_option linter.unusedVariables false
set_option linter.unusedSimpArgs false
namespace Go.Proofs.YtdkimcnlhmhpgaaGreat
open Go.RowKit Go.Maps
def WB (w : World) (b k : Nat) : Prop := ∃ v, w.cell? ⟨b, 1, none⟩ = some v ∧ v.ownBlock = some k
structure PK (T : List Nat) (b sb mb : Nat) (w w' : World) : Prop where
  os : w'.os = w.os
  tape : w'.tape = w.tape
  output : w'.output = w.output
  size : w.heap.size ≤ w'.heap.size
  block : ∀ k, k < w.heap.size → k ∉ T → k ≠ b → k ≠ sb → k ≠ mb → ¬ WB w b k → w'.heap[k]? = w.heap[k]?
  wb : ∀ k, WB w' b k → WB w b k ∨ w.heap.size ≤ k
theorem WB.of_cell {w w' : World} {b k : Nat} (h : w'.cell? ⟨b, 1, none⟩ = w.cell? ⟨b, 1, none⟩) : WB w' b k ↔ WB w b k := by unfold WB; rw [h]
theorem PK.refl (T : List Nat) (b sb mb : Nat) (w : World) : PK T b sb mb w w := ⟨rfl, rfl, rfl, Nat.le_refl _, fun _ _ _ _ _ _ _ => rfl, fun _ h => Or.inl h⟩
theorem PK.trans {T : List Nat} {b sb mb : Nat} {a w w' : World} (h : PK T b sb mb a w) (k : PK T b sb mb w w') : PK T b sb mb a w' := by
  refine ⟨k.os.trans h.os, k.tape.trans h.tape, k.output.trans h.output, Nat.le_trans h.size k.size, fun i hi h1 h2 h3 h4 h5 => ?_, fun i hi => ?_⟩
  · rw [k.block i (Nat.lt_of_lt_of_le hi h.size) h1 h2 h3 h4 (fun hw => by
      rcases h.wb i hw with h6 | h6
      · exact h5 h6
      · omega)]
    exact h.block i hi h1 h2 h3 h4 h5
  · rcases k.wb i hi with h6 | h6
    · exact h.wb i h6
    · exact Or.inr (Nat.le_trans h.size h6)
theorem PK.mono {S T : List Nat} {b sb mb : Nat} {w w' : World} (h : PK S b sb mb w w') (hST : ∀ x ∈ S, x ∈ T) : PK T b sb mb w w' :=
  ⟨h.os, h.tape, h.output, h.size, fun k hk h1 => h.block k hk (fun h2 => h1 (hST k h2)), h.wb⟩
theorem Kept.pk {S T : List Nat} {b sb mb : Nat} {w w' : World} (h : Kept S w w') (hb : b < w.heap.size) (hS : ∀ x ∈ S, x ≠ b ∧ (x ∈ T ∨ w.heap.size ≤ x)) : PK T b sb mb w w' :=
  ⟨h.os, h.tape, h.output, h.size, fun k hk h1 _ _ _ _ => h.block k hk (fun hx => by
    rcases (hS k hx).2 with h2 | h2
    · exact h1 h2
    · omega), fun k hk => Or.inl ((WB.of_cell (h.cell (a := ⟨b, 1, none⟩) hb (fun hx => (hS b hx).1 rfl))).1 hk)⟩
theorem Kept.pk0 {T : List Nat} {b sb mb : Nat} {w w' : World} (h : Kept [] w w') (hb : b < w.heap.size) : PK T b sb mb w w' := h.pk hb (fun x hx => by cases hx)
theorem PK.kept {T : List Nat} {b sb mb : Nat} {w w' : World} (h : PK T b sb mb w w') (B : Nat) (hB : B ≤ w.heap.size) (h1 : ∀ x ∈ T, B ≤ x) (h2 : B ≤ b) (h3 : B ≤ sb) (h4 : B ≤ mb) (h5 : ∀ k, WB w b k → B ≤ k) : Below B w w' :=
  ⟨h.os, h.tape, h.output, h.size, fun k hk => h.block k (by omega) (fun hx => by have := h1 k hx; omega) (by omega) (by omega) (by omega) (fun hx => by have := h5 k hx; omega)⟩
theorem DiskAt.b_lt {w : World} {b sb mb lo : Nat} {d : DK} (h : DiskAt w b sb mb lo d) : b < w.heap.size := by obtain ⟨_, _, o, _⟩ := h; exact o.lt
theorem DiskAt.wb {w : World} {b sb mb lo : Nat} {d : DK} (h : DiskAt w b sb mb lo d) {k : Nat} (hk : WB w b k) : lo ≤ k ∧ ∃ cs, w.heap[k]? = some (.cells cs 206 (0, 0)) := by
  obtain ⟨wv, n, o, os, hw, _⟩ := h
  obtain ⟨v, h1, h2⟩ := hk
  have h3 := o.cell 1 (by simp)
  rw [h1] at h3
  have e : v = wv := by injection h3
  subst e
  rcases hw.2 with ⟨rfl, _⟩ | ⟨g', cap, cur, rfl, hge, hh, _⟩
  · simp [Value.ownBlock] at h2
  · have e1 : g' = k := by simpa [Value.ownBlock] using h2
    subst e1
    exact ⟨hge, cur, hh⟩
theorem PK.dkept {w w' : World} {b sb mb lo : Nat} {d : DK} (h : PK [] b sb mb w w') (hD : DiskAt w b sb mb lo d) : DKept b sb mb lo w w' :=
  ⟨h.os, h.tape, h.output, h.size, fun k hk h1 h2 h3 h4 => h.block k hk (by simp) h1 h2 h3 (fun hx => by
    obtain ⟨h5, cs, h6⟩ := hD.wb hx
    rcases h4 with h4 | h4
    · omega
    · exact h4 cs _ h6)⟩
set_option maxRecDepth 100000 in
theorem dOperateP (b sb mb lo : Nat) (d : DK) (w : World) (h : DiskAt w b sb mb lo d) (ho : d.ops < 100000) : Calls Tryz.prog 90 #[.pointer (some ⟨b, 0, none⟩)] w fun e w' => e = .returned (.bool (decide (d.fuse = 0))) ∧ DiskAt w' b sb mb lo (opD d) ∧ Kept [b] w w' ∧ w'.cell? ⟨b, 1, none⟩ = w.cell? ⟨b, 1, none⟩ := by
  have hn := fun (d' : DK) (w' : World) (k : Kept [b] w w') => DiskAt.nums (d' := d') h k
  have HN := Lib.hid hn
  clear hn
  obtain ⟨wv, n, o, os, hw, hm, g1, g2, g3, g4, g5, g6, g7, g8, g9, g10, g11⟩ := h
  obtain ⟨p, c, rfl⟩ := own_shape hw
  obtain ⟨c0, c1, c2, c3, c4, c5⟩ := o.c6
  have z := o.z6
  clear os hw hm
  obtain ⟨st, wa, fu, op, dn⟩ := d
  simp only at *
  obtain ⟨q, hq⟩ : ∃ q, q = op + 1 := ⟨_, rfl⟩
  have hop : ((op : Int) + 1) = (q : Int) := by omega
  have HQ := Lib.hid hq
  have HO := Lib.hid ho
  clear hq g11
  have hop2 : (op : Int) ≤ 100000 := by omega
  rcases (by omega : fu = 0 ∨ fu = -1 ∨ 0 < fu) with rfl | rfl | hp
  · go_enter Tryz.func90, Tryz.ntmps90
    go_wp2_with fail
    go_ret
    have kk := ((Kept.refl [b] w).setCell (p := ⟨b, 4, none⟩) (Or.inl (by simp)) (.int .i64 q)).setCell (p := ⟨b, 5, none⟩) (Or.inl (by simp)) (.bool true)
    refine ⟨rfl, HN.out (opD ⟨st, wa, 0, op, dn⟩) _ kk rfl rfl (by show (-1 : Int) ≤ 0; omega) (by show (0 : Int) ≤ 9223372036854775807; omega) (by have := HO.out; show op + 1 ≤ _; omega) (fun v0 v1 v2 o => ?_), kk, by rw [((o.set 4 _).set 5 _).cell 1 (by simp), o.cell 1 (by simp)]; rfl⟩
    show Own _ b #[v0, v1, v2, .int .i64 0, .int .i64 ((op + 1 : Nat) : Int), .bool true] _
    rw [← HQ.out]
    exact (o.set 4 _).set 5 _
  · go_enter Tryz.func90, Tryz.ntmps90
    go_wp2_with fail
    go_ret
    have kk := (Kept.refl [b] w).setCell (p := ⟨b, 4, none⟩) (Or.inl (by simp)) (.int .i64 q)
    refine ⟨rfl, HN.out (opD ⟨st, wa, -1, op, dn⟩) _ kk rfl rfl (by show (-1 : Int) ≤ -1; omega) (by show (-1 : Int) ≤ 9223372036854775807; omega) (by have := HO.out; show op + 1 ≤ _; omega) (fun v0 v1 v2 o => ?_), kk, by rw [(o.set 4 _).cell 1 (by simp), o.cell 1 (by simp)]; rfl⟩
    show Own _ b #[v0, v1, v2, .int .i64 (-1), .int .i64 ((op + 1 : Nat) : Int), .bool dn] _
    rw [← HQ.out]
    exact o.set 4 _
  · have hne : (fu == 0) = false := by rw [beq_eq_false_iff_ne]; omega
    have hdc : decide (fu = 0) = false := decide_eq_false (by omega)
    rw [hdc]
    go_enter Tryz.func90, Tryz.ntmps90
    go_wp2_with fail
    go_ret
    have kk := ((Kept.refl [b] w).setCell (p := ⟨b, 4, none⟩) (Or.inl (by simp)) (.int .i64 q)).setCell (p := ⟨b, 3, none⟩) (Or.inl (by simp)) (.int .i64 (fu - 1))
    have ef : (opD ⟨st, wa, fu, op, dn⟩).fuse = fu - 1 := by show (if 0 < fu then fu - 1 else fu) = _; rw [if_pos hp]
    have ed : (opD ⟨st, wa, fu, op, dn⟩).down = dn := by show (if fu = 0 then true else dn) = _; rw [if_neg (by omega)]
    refine ⟨rfl, HN.out (opD ⟨st, wa, fu, op, dn⟩) _ kk rfl rfl (by rw [ef]; omega) (by rw [ef]; omega) (by have := HO.out; show op + 1 ≤ _; omega) (fun v0 v1 v2 o => ?_), kk, by rw [((o.set 4 _).set 3 _).cell 1 (by simp), o.cell 1 (by simp)]; rfl⟩
    rw [ef, ed]
    show Own _ b #[v0, v1, v2, .int .i64 (fu - 1), .int .i64 ((op + 1 : Nat) : Int), .bool dn] _
    rw [← HQ.out]
    exact (o.set 4 _).set 3 _
set_option maxRecDepth 100000 in
set_option maxHeartbeats 1000000 in
theorem dWriteP (b sb mb lo : Nat) (d : DK) (i : Nat) (s : List UInt8) (w : World) (h : DiskAt w b sb mb lo d) (hd : d.down = false) (hi : i < d.stand.length) (hs : s.length = 128) (ho : d.ops < 100000) (hwl : d.waits.length ≤ 10000) :
    Calls Tryz.prog 88 #[.pointer (some ⟨b, 0, none⟩), .int .i64 i, .string (bs s)] w fun e w' => e = .returned (.int .i64 (if d.fuse = 0 then 90 else 0)) ∧ DiskAt w' b sb mb lo (writeD d i s) ∧ PK [] b sb mb w w' := by
  have hr := dAt b sb mb lo d i w h
  have e0 : atOf d i = 0 := by unfold atOf; rw [hd, if_neg (by simp), if_neg (by omega)]
  rw [e0] at hr
  have hop := dOperateP b sb mb lo d w h ho
  have hz : (bs s).size = 128 := by rw [bs_size, hs]
  have hsm : (bs s).size ≤ maxLen := by rw [hz]; decide
  have hi8 : i ≤ 8192 := by obtain ⟨_, _, _, _, _, _, _, _, _, _, _, _, _, h8, _⟩ := h; omega
  obtain ⟨i0, q0, q1, q2, q3⟩ := infoWait
  clear h e0 hd
  have HI := Lib.hid hi
  clear hi
  have key : ∀ (fb : Bool) (fc : Int), decide (d.fuse = 0) = fb → (if d.fuse = 0 then (90 : Int) else 0) = fc → (fb = true ∧ fc = 90 ∨ fb = false ∧ fc = 0) →
      Calls Tryz.prog 88 #[.pointer (some ⟨b, 0, none⟩), .int .i64 i, .string (bs s)] w fun e w' => e = .returned (.int .i64 fc) ∧ DiskAt w' b sb mb lo (writeD d i s) ∧ PK [] b sb mb w w' := by
    intro fb fc hfb hfc hcases
    rw [hfb] at hop
    clear hfb hfc
    rcases hcases with ⟨rfl, rfl⟩ | ⟨rfl, rfl⟩
    all_goals
      go_enter Tryz.func88, Tryz.ntmps88
      go_wp2_with fail
      refine hr.mono ?_; rintro e w' ⟨rfl, rfl⟩
      go_wp2_with fail
      refine hop.mono ?_; rintro e w1 ⟨rfl, h1, k1, hc1⟩
      obtain ⟨wv, n, o, os, hw, hm, hn, g2, g3, g4, g5, g6, g7, g8, g9, g10, g11⟩ := h1
      obtain ⟨p, c, rfl⟩ := own_shape hw
      obtain ⟨c0, c1, c2, c3, c4, c5⟩ := o.c6
      have z := o.z6
      have hcw : w.cell? ⟨b, 1, none⟩ = some (.slice p (opD d).waits.length c) := by rw [← hc1]; exact o.cell 1 (by simp)
      have hwl2 : (opD d).waits.length ≤ 10000 := hwl
      have r3 : (opD d).waits.length + 1 ≤ maxLen := by unfold maxLen; omega
      have r4 : ((opD d).waits.length + 1) * 24 ≤ 140737488355328 := by omega
      clear hr hop
      go_wp2_with (at_builtin; go_must (refine wpList_append_own_at _ rfl (.tmp 24) (.tmp 28) 135 rfl lo 206 i0 (.agg #[.int .i64 0, .string ⟨#[]⟩]) 2 24 Tryz.underlying135 q0 q1 q2 q3 rfl (by decide) _ _ _ rfl (World.ownsRow.alloc hw _) ⟨w1.heap.size, 0, none⟩ 1 1 [.int .i64 i, .string (bs s)] rfl rfl ?_ ?_ ?_ ?_ ?_ ?_))
      · exact World.news_of_block (heap_alloc_new w1 _)
      · intro u hu; simp at hu; rcases hu with rfl | rfl <;> rfl
      · exact r3
      · exact r4
      · simp; omega
      intro v5 w5 o3 gr3 _ hv5
      obtain ⟨p5, c5', rfl⟩ := own_shape o3
      have HV5 := Lib.hid hv5
      have HCW := Lib.hid hcw
      clear hv5 hcw hc1
      have o5 := own_grown (World.ownsRow.alloc hw _) gr3 (o.alloc _) (by decide)
      have os5 := own_grown (World.ownsRow.alloc hw _) gr3 (os.alloc _) (by decide)
      have hm5 := (hm.alloc (.cells #[.int .i64 i, .string (bs s)] 206)).block (gr3.block mb (hm.alloc _).lt (fun he => by have := (World.ownsRow.lt hw mb he.symm).1; omega))
      have hsz5 := gr3.size
      simp only [World.size_alloc] at hsz5
      obtain ⟨y0, y1, y2, y3, y4, y5⟩ := o5.c6
      have zy := o5.z6
      obtain ⟨gb, hg1, hg2⟩ : ∃ gb, (∀ j, (Value.slice p (opD d).waits.length c).ownBlock = some j → j = gb) ∧ (gb = b ∨ (Value.slice p (opD d).waits.length c).ownBlock = some gb) := by
        cases hb : (Value.slice p (opD d).waits.length c).ownBlock with
        | none => exact ⟨b, (fun j hj => by cases hj), Or.inl rfl⟩
        | some g => exact ⟨g, (fun j hj => by injection hj with hj; exact hj.symm), Or.inr rfl⟩
      have hK5 : Kept [b, mb, gb] w w5 := ((k1.mono (T := [b, mb, gb]) (by simp)).alloc (.cells #[.int .i64 i, .string (bs s)] 206)).grown gr3 (fun j hj => Or.inl (by rw [hg1 j hj]; simp))
      clear c0 c1 c2 c3 c4 c5 z o os hm hw gr3
      obtain ⟨D, hown, hf⟩ := hm5.other (p := ⟨b, 1, none⟩) (by show mb ≠ b; omega) (.slice p5 ((opD d).waits.length + 1) c5')
      go_wp2_with (at_mapUpdate; go_must (refine wpList_mapUpdate_own _ rfl _ _ _ 136 rfl 3 9 intLaw Tryz.underlying136 _ mb n _ rfl hown ?_ _ _ _ rfl rfl (key_i64 i hi8) _ [] (plainElem_string Tryz.underlying9 hsm) ?_))
      · unfold maxLen; omega
      intro w7 hown7 gr7
      go_wp2_with fail
      go_ret
      have hk7 := (Kept.refl [mb] _).grown gr7 (fun k hk => Or.inl (by simp at hk; simp [hk]))
      have hsz7 := hk7.size
      have e : lastOf (d.waits ++ [(i, s)]) = fun j => if i = j then some s else lastOf d.waits j := funext fun j => lastOf_snoc _ _ _
      have o7 := hk7.own (o5.set 1 (.slice p5 ((opD d).waits.length + 1) c5')) (by simp; omega)
      have os7 := hk7.own (os5.other (p := ⟨b, 1, none⟩) (by show sb ≠ b; omega) (.slice p5 ((opD d).waits.length + 1) c5')) (by simp; omega)
      have hr7 := ownsRow_kept (ownsRow_other o3 (p := ⟨b, 1, none⟩) (own_row_ne o3 o5 (by decide)) (.slice p5 ((opD d).waits.length + 1) c5')) hk7 (by simp; omega)
      have hm7 := MapAt.put (w := w7) hown.isMap hf i hi8 s hown7
      have hsx : (w5.setCell ⟨b, 1, none⟩ (.slice p5 ((opD d).waits.length + 1) c5')).heap.size = w5.heap.size := by simp [World.setCell]
      have hlen : (d.waits ++ [(i, s)]).length = (opD d).waits.length + 1 := by simp [opD]
      have hk57 := ((hK5.setCell (p := ⟨b, 1, none⟩) (Or.inl (by simp)) (.slice p5 ((opD d).waits.length + 1) c5')).trans (hk7.mono (T := [b, mb, gb]) (by simp)))
      have hdk : PK [] b sb mb w w7 := by
        refine ⟨hk57.os, hk57.tape, hk57.output, hk57.size, fun k hk _ e1 e2 e3 e4 => hk57.block k hk (fun hx => ?_), fun k hx => ?_⟩
        · simp only [List.mem_cons, List.not_mem_nil, or_false] at hx
          rcases hx with hx | hx | hx
          · exact e1 hx
          · exact e3 hx
          · rcases hg2 with h | h
            · exact e1 (hx.trans h)
            · exact e4 ⟨_, HCW.out, by rw [hx]; exact h⟩
        · obtain ⟨v, h1, h2⟩ := hx
          have h3 := o7.cell 1 (by simp)
          rw [h1] at h3
          have e : v = .slice p5 ((opD d).waits.length + 1) c5' := by injection h3
          subst e
          rcases HV5.out with h4 | h4
          · exact Or.inl ⟨_, HCW.out, h4 ▸ h2⟩
          · right
            rw [h2] at h4
            injection h4 with h4
            have := k1.size
            (try simp only [World.size_alloc] at h4)
            omega
      refine ⟨rfl, ⟨.slice p5 ((opD d).waits.length + 1) c5', n + 1, o7, os7, ?_, ?_, ?_, g2, g3, g4, g5, by omega, g7, g8, g9, g10, g11⟩, hdk⟩
      · show w7.ownsRow lo _ 2 _ (d.waits ++ [(i, s)]).length (wcells (d.waits ++ [(i, s)]))
        rw [hlen, wcells_snoc]; exact hr7
      · show MapAt w7 mb (n + 1) (lastOf (d.waits ++ [(i, s)]))
        rw [e]; exact hm7
      · show n + 1 ≤ (d.waits ++ [(i, s)]).length
        rw [hlen]; omega
  by_cases hf : d.fuse = 0
  · have := key true 90 (decide_eq_true hf) (if_pos hf) (Or.inl ⟨rfl, rfl⟩)
    rw [if_pos hf]; exact this
  · have := key false 0 (decide_eq_false hf) (if_neg hf) (Or.inr ⟨rfl, rfl⟩)
    rw [if_neg hf]; exact this
theorem PK.nowb {T : List Nat} {b sb mb : Nat} {w w' : World} {cs : Array Value} {t : TypeId} (h : Kept [sb, b, mb] w w') (o : Own w' b cs t) (h1 : cs[1]? = some (.slice none 0 0)) : PK T b sb mb w w' :=
  ⟨h.os, h.tape, h.output, h.size, fun k hk _ e1 e2 e3 _ => h.block k hk (by simp [e1, e2, e3]), fun k hk => by
    obtain ⟨v, h2, h3⟩ := hk
    obtain ⟨hlt, h4⟩ := Array.getElem?_eq_some_iff.1 h1
    have h5 := o.cell 1 hlt
    rw [h2, h4] at h5
    injection h5 with h5
    subst h5
    simp [Value.ownBlock] at h3⟩
set_option maxRecDepth 100000 in
set_option maxHeartbeats 2000000 in
theorem dSettleAllP (b sb mb lo : Nat) (d : DK)  (w : World) (h : DiskAt w b sb mb lo d) (hfine : ∀ x ∈ d.waits, x.1 < d.stand.length) (hwl : d.waits.length ≤ 10000)  :
    Calls Tryz.prog 75 #[.pointer (some ⟨b, 0, none⟩), .func (.func 91) #[] #[]] w fun e w' => e = .returned (.tuple #[]) ∧ DiskAt w' b sb mb lo (settleD d (fun _ => true)) ∧ PK [] b sb mb w w' := by
  obtain ⟨wv, n, o, os, hw, hm, hn, g2, g3, g4, g5, g6, g7, g8, g9, g10, g11⟩ := h
  obtain ⟨p, c, rfl⟩ := own_shape hw
  obtain ⟨c0, c1, c2, c3, c4, c5⟩ := o.c6
  obtain ⟨st, ws, fu, op, dn⟩ := d
  simp only at *
  go_enter Tryz.func75, Tryz.ntmps75
  go_wp2_with fail
  go_loopw [11] (fun i wr => ∃ k : Nat, k ≤ ws.length ∧ i = .int .i64 k ∧ Own wr sb (scells (sk st ws (fun _ => true) k)) 9 ∧ Kept [sb] w wr) (fun i _ => ws.length - (intOf i).toNat)
  case atStart => exact ⟨0, by omega, rfl, os, Kept.refl _ _⟩
  case round =>
    obtain ⟨k, hk, rfl, os2, hK⟩ := hrel
    have o2 := hK.own o (by simp; omega)
    have hw2 := ownsRow_kept hw hK (by simp; omega)
    by_cases hlt : k < ws.length
    · obtain ⟨gw, rfl, hgw⟩ : ∃ gw, p = some ⟨gw, 0, none⟩ ∧ lo ≤ gw := by
        rcases hw2.2 with ⟨e1, e2⟩ | ⟨g', cap, cur, e1, hge, _⟩
        · omega
        · injection e1 with e1
          exact ⟨g', e1, hge⟩
      obtain ⟨q1, q2⟩ := wcells_get ws k hlt
      have w1c := World.ownsRow.cells hw2 rfl (k * 2) _ q1
      have w2c := World.ownsRow.cells hw2 rfl (k * 2 + 1) _ q2
      rw [Go.WideShapes.add_plain, Nat.zero_add] at w1c w2c
      have hat : ws[k].1 < st.length := hfine _ (List.getElem_mem _)
      have hsl : (sk st ws (fun _ => true) k).length = st.length := sk_len _ _ _ _
      have hstep := sk_succ st ws (fun _ => true) k hlt
      obtain ⟨d0, d1, d2, d3, d4, d5⟩ := o2.c6
      have hgs : gw < wr.heap.size := lt_of_cell w1c
      have hsbl := os2.lt
      have HST := Lib.hid hstep
      have HLT := Lib.hid hlt
      have HSL := Lib.hid hsl
      clear hstep hsl q1 q2 c0 c1 c2 c3 c4 c5
      generalize ws[k].1 = at1 at *
      generalize ws[k].2 = dt at *
      have i1 : (at1 : Int) < st.length := by omega
      have ot := Own.new wr #[.int .i64 (at1 : Int), .string (bs dt)] 206
      have os3 := os2.alloc (.cells #[.int .i64 (at1 : Int), .string (bs dt)] 206)
      have o3 := o2.alloc (.cells #[.int .i64 (at1 : Int), .string (bs dt)] 206)
      have hK3 := hK.alloc (.cells #[.int .i64 (at1 : Int), .string (bs dt)] 206)
      obtain ⟨e0, e1, e2, e3, e4, e5⟩ := o3.c6
      obtain ⟨f0, f1⟩ := ot.c2
      have hsize : at1 < (scells (sk st ws (fun _ => true) k)).size := by simp [scells, HSL.out]; exact hat
      obtain ⟨v0, s0⟩ : ∃ v0, (wr.alloc (.cells #[.int .i64 (at1 : Int), .string (bs dt)] 206)).cell? ⟨sb, at1, none⟩ = some v0 := ⟨_, os3.cell at1 hsize⟩
      have zs := os3.free at1
      go_wp2_with fail
      refine (dAll _ _).mono ?_; rintro e w' ⟨rfl, rfl⟩
      go_wp2_with fail
      go_region
      have hfin : Own ((wr.setCell ⟨sb, at1, none⟩ (.string (bs dt))).alloc (.cells #[.int .i64 (at1 : Int), .string (bs dt)] 206)).drew sb (scells (sk st ws (fun _ => true) (k + 1))) 9 := by
        rw [HST.out]
        simp only [if_true]
        rw [← scells_set]
        exact ((os2.set at1 _).alloc _).drew
      have hkf := ((hK.setCell (p := ⟨sb, at1, none⟩) (Or.inl (by simp)) (.string (bs dt))).alloc (.cells #[.int .i64 (at1 : Int), .string (bs dt)] 206)).drew
      go_wp2_with fail
      go_roundw
      case rel => exact ⟨k + 1, HLT.out, by go_num, hfin, hkf⟩
      case measure => (have hh := HLT.out; simp [intOf]; omega)
    · obtain rfl : k = ws.length := by omega
      obtain ⟨d0, d1, d2, d3, d4, d5⟩ := o2.c6
      have z2 := o2.z6
      have hm2 := hm.kept hK (by simp; omega)
      have hm3 := hm2.other (p := ⟨b, 1, none⟩) (by show mb ≠ b; omega) (.slice none 0 0)
      have os3 := os2.other (p := ⟨b, 1, none⟩) (by show sb ≠ b; omega) (.slice none 0 0)
      have o3 := o2.set 1 (.slice none 0 0)
      have hsx : (wr.setCell ⟨b, 1, none⟩ (.slice none 0 0)).heap.size = wr.heap.size := by simp [World.setCell]
      have hk3 := (hK.mono (T := [sb, b, mb]) (by simp)).setCell (p := ⟨b, 1, none⟩) (Or.inl (by simp)) (.slice none 0 0)
      have hlen : (sk st ws (fun _ => true) ws.length).length = st.length := sk_len _ _ _ _
      obtain ⟨w7, hrun7, hm7, hk7⟩ := hm3.clears 0
      go_wp2_with fail
      go_end0
      have hsz7 := hk7.size
      have hszK := hK.size
      refine ⟨rfl, ⟨.slice none 0 0, 0, ?_, hk7.own os3 (by simp; omega), World.ownsRow_nil _ _ _ _, hm7, Nat.le_refl _, g2, g3, g4, g5, by omega, ?_, ?_, g9, g10, g11⟩, ?_⟩
      · have := hk7.own o3 (by simp; omega)
        show Own w7 b #[.slice (some ⟨sb, 0, none⟩) (sk st ws (fun _ => true) ws.length).length (sk st ws (fun _ => true) ws.length).length, _, _, _, _, _] _
        rw [hlen]; exact this
      · show 1 ≤ (sk st ws (fun _ => true) ws.length).length
        rw [hlen]; exact g7
      · show (sk st ws (fun _ => true) ws.length).length ≤ 8192
        rw [hlen]; exact g8
      · exact PK.nowb (hk3.trans (hk7.mono (by simp))) (hk7.own o3 (by simp; omega)) (by simp)
theorem PK.of_b {b sb mb : Nat} {w w' : World} (h : Kept [b] w w') (hc : w'.cell? ⟨b, 1, none⟩ = w.cell? ⟨b, 1, none⟩) : PK [] b sb mb w w' :=
  ⟨h.os, h.tape, h.output, h.size, fun k hk _ e1 _ _ _ => h.block k hk (by simpa using e1), fun k hk => Or.inl ((WB.of_cell hc).1 hk)⟩
set_option maxRecDepth 100000 in
set_option maxHeartbeats 2000000 in
theorem dFlush_cutP (b sb mb lo : Nat) (d : DK) (w : World) (h : DiskAt w b sb mb lo d) (hd : d.down = false) (hf : d.fuse = 0) (ho : d.ops < 100000) : Calls Tryz.prog 39 #[.pointer (some ⟨b, 0, none⟩)] w fun e w' => e = .returned (.int .i64 90) ∧ DiskAt w' b sb mb lo (opD d) ∧ PK [] b sb mb w w' := by
  have hr := dReady b sb mb lo d w h
  have hop := dOperateP b sb mb lo d w h ho
  unfold readyOf at hr
  rw [hd] at hr
  rw [decide_eq_true hf] at hop
  simp only [Bool.false_eq_true, if_false] at hr
  clear h hd hf
  go_enter Tryz.func39, Tryz.ntmps39
  go_wp2_with fail
  refine hr.mono ?_; rintro e w' ⟨rfl, rfl⟩
  go_wp2_with fail
  refine hop.mono ?_; rintro e w1 ⟨rfl, h1, k1, hc1⟩
  go_wp2_with fail
  go_ret
  exact ⟨rfl, h1, PK.of_b k1 hc1⟩
set_option maxRecDepth 100000 in
set_option maxHeartbeats 2000000 in
theorem dFlushP (b sb mb lo : Nat) (d : DK) (w : World) (h : DiskAt w b sb mb lo d) (hd : d.down = false) (hf : d.fuse ≠ 0) (ho : d.ops < 100000) (hfine : ∀ x ∈ d.waits, x.1 < d.stand.length) (hwl : d.waits.length ≤ 10000) :
    Calls Tryz.prog 39 #[.pointer (some ⟨b, 0, none⟩)] w fun e w' => e = .returned (.int .i64 0) ∧ DiskAt w' b sb mb lo (settleD (opD d) (fun _ => true)) ∧ PK [] b sb mb w w' := by
  have hr := dReady b sb mb lo d w h
  have hop := dOperateP b sb mb lo d w h ho
  have hset := fun W (hW : DiskAt W b sb mb lo (opD d)) => dSettleAllP b sb mb lo (opD d) W hW hfine hwl
  unfold readyOf at hr
  rw [hd] at hr
  rw [decide_eq_false hf] at hop
  simp only [Bool.false_eq_true, if_false] at hr
  clear h hd hf
  have HSET := Lib.hid hset
  clear hset
  go_enter Tryz.func39, Tryz.ntmps39
  go_wp2_with fail
  refine hr.mono ?_; rintro e w' ⟨rfl, rfl⟩
  go_wp2_with fail
  refine hop.mono ?_; rintro e w1 ⟨rfl, h1, k1, hc1⟩
  go_wp2_with fail
  refine (HSET.out _ h1).mono ?_; rintro e w2 ⟨rfl, h2, k2⟩
  go_wp2_with fail
  go_ret
  exact ⟨rfl, h2, (PK.of_b k1 hc1).trans k2⟩
end Go.Proofs.YtdkimcnlhmhpgaaGreat

/- -/
namespace Go.Proofs.YtdkimcnlhmhpgaaGreat
open Go.RowKit
def numL : Nat → Nat → List UInt8
  | _, 0 => []
  | n, k + 1 => UInt8.ofNat n :: numL (n / 256) k
theorem numL_len (n k : Nat) : (numL n k).length = k := by
  induction k generalizing n with
  | zero => rfl
  | succ k ih => simp [numL, ih]
theorem numL_snoc (n k : Nat) : numL n (k + 1) = numL n k ++ [UInt8.ofNat (n / 256 ^ k)] := by
  induction k generalizing n with
  | zero => simp [numL]
  | succ k ih =>
    rw [numL, ih (n / 256), numL, Nat.div_div_eq_div_mul, Nat.pow_succ, Nat.mul_comm 256]
    rfl
def bcells (l : List UInt8) : Array Value := (l.map fun b => Value.int .u8 (b.toNat : Int)).toArray
theorem bcells_size (l : List UInt8) : (bcells l).size = l.length := by simp [bcells]
theorem bcells_set (l : List UInt8) (i : Nat) (c : UInt8) : (bcells l).setIfInBounds i (.int .u8 (c.toNat : Int)) = bcells (l.set i c) := by
  apply Array.toList_inj.1
  simp [bcells]
theorem own_bytes {w : World} {b : Nat} {l : List UInt8} {t : TypeId} (h : Own w b (bcells l) t) : Lib.Bytes w b 0 (bs l) := by
  intro i hi
  rw [bs_size] at hi
  rw [Nat.zero_add, h.cell i (by rw [bcells_size]; exact hi)]
  simp only [bcells, List.getElem_toArray, List.getElem_map]
  rfl
theorem num_step {w : World} {b n k i : Nat} {t : TypeId} (ho : Own w b (bcells (numL n i ++ List.replicate (k - i) 0)) t) (hlt : i < k) :
    Own (w.setCell ⟨b, i, none⟩ (.int .u8 ((n : Int) / 2 ^ (8 * i) % 256))) b (bcells (numL n (i + 1) ++ List.replicate (k - (i + 1)) 0)) t := by
  have h := ho.set i (.int .u8 ((UInt8.ofNat (n / 256 ^ i)).toNat : Int))
  rw [bcells_set] at h
  have e1 : ((UInt8.ofNat (n / 256 ^ i)).toNat : Int) = (n : Int) / 2 ^ (8 * i) % 256 := by
    rw [UInt8.toNat_ofNat']
    have : (2 : Nat) ^ (8 * i) = 256 ^ i := by rw [Nat.pow_mul]
    rw [← this]
    simp
  have e2 : (numL n i ++ List.replicate (k - i) 0).set i (UInt8.ofNat (n / 256 ^ i)) = numL n (i + 1) ++ List.replicate (k - (i + 1)) 0 := by
    obtain ⟨d, hd⟩ : ∃ d, k - i = d + 1 := ⟨k - i - 1, by omega⟩
    have hd' : k - (i + 1) = d := by omega
    rw [hd, hd', List.replicate_succ, numL_snoc, List.set_append_right _ _ (by rw [numL_len]; exact Nat.le_refl _), numL_len, Nat.sub_self]
    simp
  rw [e1, e2] at h
  exact h
set_option maxRecDepth 100000 in
theorem packnum (n k : Nat) (w : World) (hn : n < 2 ^ 64) (hk : k ≤ 8) :
    Calls Tryz.prog 173 #[.int .u64 n, .int .i64 k] w fun e w' => e = .returned (.string (bs (numL n k))) ∧ Kept [] w w' := by
  have hi : (Tryz.prog.info? 5).map (fun i => (i.zero, i.size, i.bytes)) = some (some (.int .u8 0), 1, 1) := by kernel_rfl
  obtain ⟨i0, hi0, hz0, hz1, hz2⟩ := info_parts hi
  have hmk : ∀ w : World, (Instr.makeSlice 61 (.int .i64 k) (.int .i64 k)).run Tryz.prog w = .ok (.slice (some ⟨w.heap.size, 0, none⟩) k k) (w.alloc (.cells (bcells (List.replicate k 0)) 5)) := fun w => by
    have h := run_make (P := Tryz.prog) w 61 5 i0 (.int .u8 0) Tryz.underlying61 hi0 hz0 .i64 .i64 k k (by omega) (by omega) (by rw [hz2]; omega) (by omega)
    rw [h, hz1]
    congr 3
    apply Array.toList_inj.1
    simp [bcells, Value.cells, toList_madeCells_one]
  go_enter Tryz.func173, Tryz.ntmps173
  go_wp2_with fail
  go_loopw [11] (fun x wr => ∃ i : Nat, i ≤ k ∧ x = .int .i64 i ∧ Own wr w.heap.size (bcells (numL n i ++ List.replicate (k - i) 0)) 5 ∧ Kept [] w wr) (fun x _ => k - (intOf x).toNat)
  case atStart => exact ⟨0, Nat.zero_le _, rfl, Own.new _ _ _, (Kept.refl _ _).alloc _⟩
  case round =>
    obtain ⟨i, hik, rfl, ho, hkp⟩ := hrel
    by_cases hlt : i < k
    · have c0 : ∃ v, wr.cell? ⟨w.heap.size, i, none⟩ = some v := ⟨_, ho.cell i (by rw [bcells_size]; simp [numL_len]; omega)⟩
      obtain ⟨v, c0⟩ := c0
      have z0 := ho.free i
      go_wp2_with fail
      go_roundw
      case rel => exact ⟨i + 1, by omega, by go_num, num_step ho hlt, hkp.setCell (Or.inr (Nat.le_refl _)) _⟩
      case measure => simp [intOf]; omega
    · obtain rfl : i = k := by omega
      have hb := own_bytes ho
      have e : numL n i ++ List.replicate (i - i) 0 = numL n i := by rw [Nat.sub_self]; simp
      rw [e] at hb
      have hconv := Lib.run_convert_whole (P := Tryz.prog) wr 61 5 9 Tryz.underlying61 Tryz.underlying5 Tryz.underlying9 _ _ _ hb i
      rw [bs_size, numL_len] at hconv
      go_wp2_with fail
      go_ret
      exact ⟨rfl, hkp⟩
set_option maxRecDepth 100000 in
theorem packU8 (n : Nat) (w : World) (hn : n < 256) :
    Calls Tryz.prog 174 #[.int .u8 n] w fun e w' => e = .returned (.string (bs (numL n 1))) ∧ Kept [] w w' := by
  have h : ∀ w, Calls Tryz.prog 173 #[.int .u64 n, .int .i64 1] w fun e w' => e = .returned (.string (bs (numL n 1))) ∧ Kept [] w w' := fun w => packnum n 1 w (by omega) (by omega)
  go_enter Tryz.func174, Tryz.ntmps174
  go_wp2_with fail
  refine (h _).mono ?_; rintro e w1 ⟨rfl, hk⟩
  go_wp2_with fail
  go_ret
  exact ⟨rfl, hk⟩
set_option maxRecDepth 100000 in
theorem packU16 (n : Nat) (w : World) (hn : n < 65536) :
    Calls Tryz.prog 100 #[.int .u16 n] w fun e w' => e = .returned (.string (bs (numL n 2))) ∧ Kept [] w w' := by
  have h : ∀ w, Calls Tryz.prog 173 #[.int .u64 n, .int .i64 2] w fun e w' => e = .returned (.string (bs (numL n 2))) ∧ Kept [] w w' := fun w => packnum n 2 w (by omega) (by omega)
  go_enter Tryz.func100, Tryz.ntmps100
  go_wp2_with fail
  refine (h _).mono ?_; rintro e w1 ⟨rfl, hk⟩
  go_wp2_with fail
  go_ret
  exact ⟨rfl, hk⟩
set_option maxRecDepth 100000 in
theorem packU32 (n : Nat) (w : World) (hn : n < 4294967296) :
    Calls Tryz.prog 102 #[.int .u32 n] w fun e w' => e = .returned (.string (bs (numL n 4))) ∧ Kept [] w w' := by
  have h : ∀ w, Calls Tryz.prog 173 #[.int .u64 n, .int .i64 4] w fun e w' => e = .returned (.string (bs (numL n 4))) ∧ Kept [] w w' := fun w => packnum n 4 w (by omega) (by omega)
  go_enter Tryz.func102, Tryz.ntmps102
  go_wp2_with fail
  refine (h _).mono ?_; rintro e w1 ⟨rfl, hk⟩
  go_wp2_with fail
  go_ret
  exact ⟨rfl, hk⟩
set_option maxRecDepth 100000 in
theorem packU64 (n : Nat) (w : World) (hn : n < 18446744073709551616) :
    Calls Tryz.prog 229 #[.int .u64 n] w fun e w' => e = .returned (.string (bs (numL n 8))) ∧ Kept [] w w' := by
  have h : ∀ w, Calls Tryz.prog 173 #[.int .u64 n, .int .i64 8] w fun e w' => e = .returned (.string (bs (numL n 8))) ∧ Kept [] w w' := fun w => packnum n 8 w (by omega) (by omega)
  go_enter Tryz.func229, Tryz.ntmps229
  go_wp2_with fail
  refine (h _).mono ?_; rintro e w1 ⟨rfl, hk⟩
  go_wp2_with fail
  go_ret
  exact ⟨rfl, hk⟩
def textL (l : List UInt8) : List UInt8 := numL l.length 4 ++ l
theorem bs_append' (a : List UInt8) (s : ByteArray) : bs a ++ s = bs (a ++ s.data.toList) := by
  apply ByteArray.ext; apply Array.toList_inj.1; simp [bs, ByteArray.data_append]
theorem size_data (s : ByteArray) : s.data.toList.length = s.size := by simp
set_option maxRecDepth 100000 in
theorem packText (s : ByteArray) (w : World) (hs : s.size < 4294967296) :
    Calls Tryz.prog 175 #[.string s] w fun e w' => e = .returned (.string (bs (textL s.data.toList))) ∧ Kept [] w w' := by
  have h := fun w => packU32 s.size w (by omega)
  have hz : (bs (numL s.size 4)).size ≤ 4 := by rw [bs_size, numL_len]; omega
  have hfin := Lib.hid (bs_append' (numL s.size 4) s)
  go_enter Tryz.func175, Tryz.ntmps175
  go_wp2_with fail
  refine (h _).mono ?_; rintro e w1 ⟨rfl, hk⟩
  go_wp2_with fail
  go_ret
  refine ⟨?_, hk⟩
  show Ending.returned (Value.string (bs (numL s.size 4) ++ s)) = _
  rw [hfin.out, textL, size_data]
def RdAt (w : World) (b : Nat) (l : List UInt8) (e : Int) : Prop := Own w b #[.string (bs l), .int .i64 e] 290
def keepErr (e x : Int) : Int := if x = 0 then e else x
def takeR (n : Int) (l : List UInt8) (x : Int) : List UInt8 × List UInt8 × Int :=
  if x ≠ 0 then ([], l, x) else if n < 0 then ([], [], 1) else if (l.length : Int) < n then ([], [], 10) else (l.take n.toNat, l.drop n.toNat, 0)
def leL : List UInt8 → Nat
  | [] => 0
  | c :: l => c.toNat + 256 * leL l
def numR (k : Nat) (l : List UInt8) (x : Int) : Nat × List UInt8 × Int := (leL (takeR k l x).1, (takeR k l x).2)
def lenR (most : Nat) (l : List UInt8) (x : Int) : Nat × List UInt8 × Int :=
  let u := numR 4 l x
  if most < u.1 then (0, [], keepErr 2 u.2.2) else u
def textR (l : List UInt8) (x : Int) : List UInt8 × List UInt8 × Int :=
  let u := lenR 65536 l x
  takeR u.1 u.2.1 u.2.2
def fillL (l : List UInt8) (n : Int) : List UInt8 := l ++ List.replicate (n - l.length).toNat 0
theorem repeat_zero (k : Nat) : Lib.repeatL [0] k = List.replicate k 0 := by
  induction k with
  | zero => rfl
  | succ k ih => rw [Lib.repeatL, ih]; rfl
set_option maxRecDepth 100000 in
theorem packFill (s : ByteArray) (n : Int) (w : World) (hs : s.size ≤ 1000000) (hn : n ≤ 1000000) :
    Calls Tryz.prog 106 #[.string s, .int .i64 n] w fun e w' => e = .returned (.string (bs (fillL s.data.toList n))) ∧ Kept [] w w' := by
  by_cases hle : n ≤ s.size
  · have e : fillL s.data.toList n = s.data.toList := by
      unfold fillL; rw [size_data, show (n - (s.size : Int)).toNat = 0 from by omega]; simp
    rw [e, bs_of]
    clear e
    go_enter Tryz.func106, Tryz.ntmps106
    go_wp2_with fail
    go_ret
    exact ⟨rfl, Kept.refl _ _⟩
  · obtain ⟨d, hd⟩ : ∃ d : Nat, n - (s.size : Int) = d := ⟨(n - s.size).toNat, by omega⟩
    have e : fillL s.data.toList n = s.data.toList ++ List.replicate d 0 := by
      unfold fillL; rw [size_data, show (n - (s.size : Int)).toNat = d from by omega]
    have hrep : ∀ w, Calls Tryz.prog 34 #[.string { data := #[0] }, .int .i64 d] w fun e w' => e = .returned (.string (bs (List.replicate d 0))) ∧ Below w.heap.size w w' := fun w => by
      have h := Tryz.strings_Repeat { data := #[0] } d w (by omega) (by show 1 * d ≤ _; omega)
      have e : (⟨(Lib.repeatL (ByteArray.mk #[0]).data.toList d).toArray⟩ : ByteArray) = bs (List.replicate d 0) := by
        show bs (Lib.repeatL [0] d) = _
        rw [repeat_zero]
      rw [e] at h
      exact h
    have hz : (bs (List.replicate d 0)).size ≤ 1000000 := by rw [bs_size]; simp; omega
    have hfin : Hid (s ++ bs (List.replicate d 0) = bs (s.data.toList ++ List.replicate d 0)) := by
      show s ++ bs (List.replicate d 0) = _
      rw [← bs_append, bs_of]
    rw [e]
    have hlt : (s.size : Int) < n := by omega
    clear e hle
    go_enter Tryz.func106, Tryz.ntmps106
    go_wp2_with fail
    refine (hrep _).mono ?_; rintro e w1 ⟨rfl, hb⟩
    go_wp2_with fail
    go_ret
    exact ⟨by show Ending.returned (Value.string (s ++ bs (List.replicate d 0))) = _; rw [hfin.out], Kept.of_below hb⟩
end Go.Proofs.YtdkimcnlhmhpgaaGreat
