/- -/
import Derived.Test.YtdkimcnlhmhpgaaGreatShelf2
import Derived.Test.YtdkimcnlhmhpgaaGreatShelf
import Derived.Test.YtdkimcnlhmhpgaaGreatH03
import Derived.Test.YtdkimcnlhmhpgaaGreatH05
import Derived.LoopN
set_option linter.unusedVariables false
set_option linter.unusedSimpArgs false
namespace Go.Proofs.YtdkimcnlhmhpgaaGreat
open Go.RowKit Go.Maps
def WB (w : World) (b k : Nat) : Prop := ∃ v, w.cell? ⟨b, 1, none⟩ = some v ∧ v.ownBlock = some k
structure PK (T : List Nat) (b sb mb : Nat) (w w' : World) : Prop where
 os : w'.os = w.os
 tape : w'.tape = w.tape
 output : w'.output = w.output
 size : w.heap.size ≤ w'.heap.size
 block : ∀ k, k < w.heap.size → k ∉ T → k ≠ b → k ≠ sb → k ≠ mb → ¬ WB w b k → w'.heap[k]? = w.heap[k]?
 wb : ∀ k, WB w' b k → WB w b k ∨ w.heap.size ≤ k
theorem WB.of_cell {w w' : World} {b k : Nat} (h : w'.cell? ⟨b, 1, none⟩ = w.cell? ⟨b, 1, none⟩) : WB w' b k ↔ WB w b k := by unfold WB; rw [h]
theorem PK.refl (T : List Nat) (b sb mb : Nat) (w : World) : PK T b sb mb w w := ⟨rfl, rfl, rfl, Nat.le_refl _, fun _ _ _ _ _ _ _ => rfl, fun _ h => Or.inl h⟩
theorem PK.trans {T : List Nat} {b sb mb : Nat} {a w w' : World} (h : PK T b sb mb a w) (k : PK T b sb mb w w') : PK T b sb mb a w' := by
 refine ⟨k.os.trans h.os, k.tape.trans h.tape, k.output.trans h.output, Nat.le_trans h.size k.size, fun i hi h1 h2 h3 h4 h5 => ?_, fun i hi => ?_⟩
 ·rw [k.block i (Nat.lt_of_lt_of_le hi h.size) h1 h2 h3 h4 (fun hw => by
   rcases h.wb i hw with h6 | h6
   ·exact h5 h6
   ·omega)]
  exact h.block i hi h1 h2 h3 h4 h5
 ·rcases k.wb i hi with h6 | h6
  ·exact h.wb i h6
  ·exact Or.inr (Nat.le_trans h.size h6)
theorem PK.mono {S T : List Nat} {b sb mb : Nat} {w w' : World} (h : PK S b sb mb w w') (hST : ∀ x ∈ S, x ∈ T) : PK T b sb mb w w' :=
 ⟨h.os, h.tape, h.output, h.size, fun k hk h1 => h.block k hk (fun h2 => h1 (hST k h2)), h.wb⟩
theorem Kept.pk {S T : List Nat} {b sb mb : Nat} {w w' : World} (h : Kept S w w') (hb : b < w.heap.size) (hS : ∀ x ∈ S, x ≠ b ∧ (x ∈ T ∨ w.heap.size ≤ x)) : PK T b sb mb w w' :=
 ⟨h.os, h.tape, h.output, h.size, fun k hk h1 _ _ _ _ => h.block k hk (fun hx => by
  rcases (hS k hx).2 with h2 | h2
  ·exact h1 h2
  ·omega), fun k hk => Or.inl ((WB.of_cell (h.cell (a := ⟨b, 1, none⟩) hb (fun hx => (hS b hx).1 rfl))).1 hk)⟩
theorem Kept.pk0 {T : List Nat} {b sb mb : Nat} {w w' : World} (h : Kept [] w w') (hb : b < w.heap.size) : PK T b sb mb w w' := h.pk hb (fun x hx => by cases hx)
theorem PK.kept {T : List Nat} {b sb mb : Nat} {w w' : World} (h : PK T b sb mb w w') (B : Nat) (hB : B ≤ w.heap.size) (h1 : ∀ x ∈ T, B ≤ x) (h2 : B ≤ b) (h3 : B ≤ sb) (h4 : B ≤ mb) (h5 : ∀ k, WB w b k → B ≤ k) : Below B w w' :=
 ⟨h.os, h.tape, h.output, h.size, fun k hk => h.block k (by omega) (fun hx => by have := h1 k hx; omega) (by omega) (by omega) (by omega) (fun hx => by have := h5 k hx; omega)⟩
theorem DiskAt.b_lt {w : World} {b sb mb lo : Nat} {d : DK} (h : DiskAt w b sb mb lo d) : b < w.heap.size := by obtain ⟨_, _, o, _⟩ := h; exact o.lt
theorem DiskAt.wb {w : World} {b sb mb lo : Nat} {d : DK} (h : DiskAt w b sb mb lo d) {k : Nat} (hk : WB w b k) : lo ≤ k ∧ ∃ cs, w.heap[k]? = some (.cells cs 206 (0, 0)) := by
 obtain ⟨wv, n, o, os, hw, _⟩ := h
 obtain ⟨v, h1, h2⟩ := hk
 have h3 := o.cell 1 (by simp)
 rw [h1] at h3
 have e : v = wv := by injection h3
 subst e
 rcases hw.2 with ⟨rfl, _⟩ | ⟨g', cap, cur, rfl, hge, hh, _⟩
 ·simp [Value.ownBlock] at h2
 ·have e1 : g' = k := by simpa [Value.ownBlock] using h2
  subst e1
  exact ⟨hge, cur, hh⟩
theorem PK.dkept {w w' : World} {b sb mb lo : Nat} {d : DK} (h : PK [] b sb mb w w') (hD : DiskAt w b sb mb lo d) : DKept b sb mb lo w w' :=
 ⟨h.os, h.tape, h.output, h.size, fun k hk h1 h2 h3 h4 => h.block k hk (by simp) h1 h2 h3 (fun hx => by
  obtain ⟨h5, cs, h6⟩ := hD.wb hx
  rcases h4 with h4 | h4
  ·omega
  ·exact h4 cs _ h6)⟩
set_option maxRecDepth 100000 in
theorem dOperateP (b sb mb lo : Nat) (d : DK) (w : World) (h : DiskAt w b sb mb lo d) (ho : d.ops < 100000) : Calls Tryz.prog 90 #[.pointer (some ⟨b, 0, none⟩)] w fun e w' => e = .returned (.bool (decide (d.fuse = 0))) ∧ DiskAt w' b sb mb lo (opD d) ∧ Kept [b] w w' ∧ w'.cell? ⟨b, 1, none⟩ = w.cell? ⟨b, 1, none⟩ := by
 have hn := fun (d' : DK) (w' : World) (k : Kept [b] w w') => DiskAt.nums (d' := d') h k
 have HN := Lib.hid hn
 clear hn
 obtain ⟨wv, n, o, os, hw, hm, g1, g2, g3, g4, g5, g6, g7, g8, g9, g10, g11⟩ := h
 obtain ⟨p, c, rfl⟩ := own_shape hw
 obtain ⟨c0, c1, c2, c3, c4, c5⟩ := o.c6
 have z := o.z6
 clear os hw hm
 obtain ⟨st, wa, fu, op, dn⟩ := d
 simp only at *
 obtain ⟨q, hq⟩ : ∃ q, q = op + 1 := ⟨_, rfl⟩
 have hop : ((op : Int) + 1) = (q : Int) := by omega
 have HQ := Lib.hid hq
 have HO := Lib.hid ho
 clear hq g11
 have hop2 : (op : Int) ≤ 100000 := by omega
 rcases (by omega : fu = 0 ∨ fu = -1 ∨ 0 < fu) with rfl | rfl | hp
 ·go_enter Tryz.func90, Tryz.ntmps90
  go_wp2_with fail
  go_ret
  have kk := ((Kept.refl [b] w).setCell (p := ⟨b, 4, none⟩) (Or.inl (by simp)) (.int .i64 q)).setCell (p := ⟨b, 5, none⟩) (Or.inl (by simp)) (.bool true)
  refine ⟨rfl, HN.out (opD ⟨st, wa, 0, op, dn⟩) _ kk rfl rfl (by show (-1 : Int) ≤ 0; omega) (by show (0 : Int) ≤ 9223372036854775807; omega) (by have := HO.out; show op + 1 ≤ _; omega) (fun v0 v1 v2 o => ?_), kk, by rw [((o.set 4 _).set 5 _).cell 1 (by simp), o.cell 1 (by simp)]; rfl⟩
  show Own _ b #[v0, v1, v2, .int .i64 0, .int .i64 ((op + 1 : Nat) : Int), .bool true] _
  rw [← HQ.out]
  exact (o.set 4 _).set 5 _
 ·go_enter Tryz.func90, Tryz.ntmps90
  go_wp2_with fail
  go_ret
  have kk := (Kept.refl [b] w).setCell (p := ⟨b, 4, none⟩) (Or.inl (by simp)) (.int .i64 q)
  refine ⟨rfl, HN.out (opD ⟨st, wa, -1, op, dn⟩) _ kk rfl rfl (by show (-1 : Int) ≤ -1; omega) (by show (-1 : Int) ≤ 9223372036854775807; omega) (by have := HO.out; show op + 1 ≤ _; omega) (fun v0 v1 v2 o => ?_), kk, by rw [(o.set 4 _).cell 1 (by simp), o.cell 1 (by simp)]; rfl⟩
  show Own _ b #[v0, v1, v2, .int .i64 (-1), .int .i64 ((op + 1 : Nat) : Int), .bool dn] _
  rw [← HQ.out]
  exact o.set 4 _
 ·have hne : (fu == 0) = false := by rw [beq_eq_false_iff_ne]; omega
  have hdc : decide (fu = 0) = false := decide_eq_false (by omega)
  rw [hdc]
  go_enter Tryz.func90, Tryz.ntmps90
  go_wp2_with fail
  go_ret
  have kk := ((Kept.refl [b] w).setCell (p := ⟨b, 4, none⟩) (Or.inl (by simp)) (.int .i64 q)).setCell (p := ⟨b, 3, none⟩) (Or.inl (by simp)) (.int .i64 (fu - 1))
  have ef : (opD ⟨st, wa, fu, op, dn⟩).fuse = fu - 1 := by show (if 0 < fu then fu - 1 else fu) = _; rw [if_pos hp]
  have ed : (opD ⟨st, wa, fu, op, dn⟩).down = dn := by show (if fu = 0 then true else dn) = _; rw [if_neg (by omega)]
  refine ⟨rfl, HN.out (opD ⟨st, wa, fu, op, dn⟩) _ kk rfl rfl (by rw [ef]; omega) (by rw [ef]; omega) (by have := HO.out; show op + 1 ≤ _; omega) (fun v0 v1 v2 o => ?_), kk, by rw [((o.set 4 _).set 3 _).cell 1 (by simp), o.cell 1 (by simp)]; rfl⟩
  rw [ef, ed]
  show Own _ b #[v0, v1, v2, .int .i64 (fu - 1), .int .i64 ((op + 1 : Nat) : Int), .bool dn] _
  rw [← HQ.out]
  exact (o.set 4 _).set 3 _
set_option maxRecDepth 100000 in
set_option maxHeartbeats 1000000 in
theorem dWriteP (b sb mb lo : Nat) (d : DK) (i : Nat) (s : List UInt8) (w : World) (h : DiskAt w b sb mb lo d) (hd : d.down = false) (hi : i < d.stand.length) (hs : s.length = 128) (ho : d.ops < 100000) (hwl : d.waits.length ≤ 10000) :
  Calls Tryz.prog 88 #[.pointer (some ⟨b, 0, none⟩), .int .i64 i, .string (bs s)] w fun e w' => e = .returned (.int .i64 (if d.fuse = 0 then 90 else 0)) ∧ DiskAt w' b sb mb lo (writeD d i s) ∧ PK [] b sb mb w w' := by
 have hr := dAt b sb mb lo d i w h
 have e0 : atOf d i = 0 := by unfold atOf; rw [hd, if_neg (by simp), if_neg (by omega)]
 rw [e0] at hr
 have hop := dOperateP b sb mb lo d w h ho
 have hz : (bs s).size = 128 := by rw [bs_size, hs]
 have hsm : (bs s).size ≤ maxLen := by rw [hz]; decide
 have hi8 : i ≤ 8192 := by obtain ⟨_, _, _, _, _, _, _, _, _, _, _, _, _, h8, _⟩ := h; omega
 obtain ⟨i0, q0, q1, q2, q3⟩ := infoWait
 clear h e0 hd
 have HI := Lib.hid hi
 clear hi
 have key : ∀ (fb : Bool) (fc : Int), decide (d.fuse = 0) = fb → (if d.fuse = 0 then (90 : Int) else 0) = fc → (fb = true ∧ fc = 90 ∨ fb = false ∧ fc = 0) →
   Calls Tryz.prog 88 #[.pointer (some ⟨b, 0, none⟩), .int .i64 i, .string (bs s)] w fun e w' => e = .returned (.int .i64 fc) ∧ DiskAt w' b sb mb lo (writeD d i s) ∧ PK [] b sb mb w w' := by
  intro fb fc hfb hfc hcases
  rw [hfb] at hop
  clear hfb hfc
  rcases hcases with ⟨rfl, rfl⟩ | ⟨rfl, rfl⟩
  all_goals
   go_enter Tryz.func88, Tryz.ntmps88
   go_wp2_with fail
   refine hr.mono ?_; rintro e w' ⟨rfl, rfl⟩
   go_wp2_with fail
   refine hop.mono ?_; rintro e w1 ⟨rfl, h1, k1, hc1⟩
   obtain ⟨wv, n, o, os, hw, hm, hn, g2, g3, g4, g5, g6, g7, g8, g9, g10, g11⟩ := h1
   obtain ⟨p, c, rfl⟩ := own_shape hw
   obtain ⟨c0, c1, c2, c3, c4, c5⟩ := o.c6
   have z := o.z6
   have hcw : w.cell? ⟨b, 1, none⟩ = some (.slice p (opD d).waits.length c) := by rw [← hc1]; exact o.cell 1 (by simp)
   have hwl2 : (opD d).waits.length ≤ 10000 := hwl
   have r3 : (opD d).waits.length + 1 ≤ maxLen := by unfold maxLen; omega
   have r4 : ((opD d).waits.length + 1) * 24 ≤ 140737488355328 := by omega
   clear hr hop
   go_wp2_with (at_builtin; go_must (refine wpList_append_own_at _ rfl (.tmp 24) (.tmp 28) 135 rfl lo 206 i0 (.agg #[.int .i64 0, .string ⟨#[]⟩]) 2 24 Tryz.underlying135 q0 q1 q2 q3 rfl (by decide) _ _ _ rfl (World.ownsRow.alloc hw _) ⟨w1.heap.size, 0, none⟩ 1 1 [.int .i64 i, .string (bs s)] rfl rfl ?_ ?_ ?_ ?_ ?_ ?_))
   ·exact World.news_of_block (heap_alloc_new w1 _)
   ·intro u hu; simp at hu; rcases hu with rfl | rfl <;> rfl
   ·exact r3
   ·exact r4
   ·simp; omega
   intro v5 w5 o3 gr3 _ hv5
   obtain ⟨p5, c5', rfl⟩ := own_shape o3
   have HV5 := Lib.hid hv5
   have HCW := Lib.hid hcw
   clear hv5 hcw hc1
   have o5 := own_grown (World.ownsRow.alloc hw _) gr3 (o.alloc _) (by decide)
   have os5 := own_grown (World.ownsRow.alloc hw _) gr3 (os.alloc _) (by decide)
   have hm5 := (hm.alloc (.cells #[.int .i64 i, .string (bs s)] 206)).block (gr3.block mb (hm.alloc _).lt (fun he => by have := (World.ownsRow.lt hw mb he.symm).1; omega))
   have hsz5 := gr3.size
   simp only [World.size_alloc] at hsz5
   obtain ⟨y0, y1, y2, y3, y4, y5⟩ := o5.c6
   have zy := o5.z6
   obtain ⟨gb, hg1, hg2⟩ : ∃ gb, (∀ j, (Value.slice p (opD d).waits.length c).ownBlock = some j → j = gb) ∧ (gb = b ∨ (Value.slice p (opD d).waits.length c).ownBlock = some gb) := by
    cases hb : (Value.slice p (opD d).waits.length c).ownBlock with
    | none => exact ⟨b, (fun j hj => by cases hj), Or.inl rfl⟩
    | some g => exact ⟨g, (fun j hj => by injection hj with hj; exact hj.symm), Or.inr rfl⟩
   have hK5 : Kept [b, mb, gb] w w5 := ((k1.mono (T := [b, mb, gb]) (by simp)).alloc (.cells #[.int .i64 i, .string (bs s)] 206)).grown gr3 (fun j hj => Or.inl (by rw [hg1 j hj]; simp))
   clear c0 c1 c2 c3 c4 c5 z o os hm hw gr3
   obtain ⟨D, hown, hf⟩ := hm5.other (p := ⟨b, 1, none⟩) (by show mb ≠ b; omega) (.slice p5 ((opD d).waits.length + 1) c5')
   go_wp2_with (at_mapUpdate; go_must (refine wpList_mapUpdate_own _ rfl _ _ _ 136 rfl 3 9 intLaw Tryz.underlying136 _ mb n _ rfl hown ?_ _ _ _ rfl rfl (key_i64 i hi8) _ [] (plainElem_string Tryz.underlying9 hsm) ?_))
   ·unfold maxLen; omega
   intro w7 hown7 gr7
   go_wp2_with fail
   go_ret
   have hk7 := (Kept.refl [mb] _).grown gr7 (fun k hk => Or.inl (by simp at hk; simp [hk]))
   have hsz7 := hk7.size
   have e : lastOf (d.waits ++ [(i, s)]) = fun j => if i = j then some s else lastOf d.waits j := funext fun j => lastOf_snoc _ _ _
   have o7 := hk7.own (o5.set 1 (.slice p5 ((opD d).waits.length + 1) c5')) (by simp; omega)
   have os7 := hk7.own (os5.other (p := ⟨b, 1, none⟩) (by show sb ≠ b; omega) (.slice p5 ((opD d).waits.length + 1) c5')) (by simp; omega)
   have hr7 := ownsRow_kept (ownsRow_other o3 (p := ⟨b, 1, none⟩) (own_row_ne o3 o5 (by decide)) (.slice p5 ((opD d).waits.length + 1) c5')) hk7 (by simp; omega)
   have hm7 := MapAt.put (w := w7) hown.isMap hf i hi8 s hown7
   have hsx : (w5.setCell ⟨b, 1, none⟩ (.slice p5 ((opD d).waits.length + 1) c5')).heap.size = w5.heap.size := by simp [World.setCell]
   have hlen : (d.waits ++ [(i, s)]).length = (opD d).waits.length + 1 := by simp [opD]
   have hk57 := ((hK5.setCell (p := ⟨b, 1, none⟩) (Or.inl (by simp)) (.slice p5 ((opD d).waits.length + 1) c5')).trans (hk7.mono (T := [b, mb, gb]) (by simp)))
   have hdk : PK [] b sb mb w w7 := by
    refine ⟨hk57.os, hk57.tape, hk57.output, hk57.size, fun k hk _ e1 e2 e3 e4 => hk57.block k hk (fun hx => ?_), fun k hx => ?_⟩
    ·simp only [List.mem_cons, List.not_mem_nil, or_false] at hx
     rcases hx with hx | hx | hx
     ·exact e1 hx
     ·exact e3 hx
     ·rcases hg2 with h | h
      ·exact e1 (hx.trans h)
      ·exact e4 ⟨_, HCW.out, by rw [hx]; exact h⟩
    ·obtain ⟨v, h1, h2⟩ := hx
     have h3 := o7.cell 1 (by simp)
     rw [h1] at h3
     have e : v = .slice p5 ((opD d).waits.length + 1) c5' := by injection h3
     subst e
     rcases HV5.out with h4 | h4
     ·exact Or.inl ⟨_, HCW.out, h4 ▸ h2⟩
     ·right
      rw [h2] at h4
      injection h4 with h4
      have := k1.size
      (try simp only [World.size_alloc] at h4)
      omega
   refine ⟨rfl, ⟨.slice p5 ((opD d).waits.length + 1) c5', n + 1, o7, os7, ?_, ?_, ?_, g2, g3, g4, g5, by omega, g7, g8, g9, g10, g11⟩, hdk⟩
   ·show w7.ownsRow lo _ 2 _ (d.waits ++ [(i, s)]).length (wcells (d.waits ++ [(i, s)]))
    rw [hlen, wcells_snoc]; exact hr7
   ·show MapAt w7 mb (n + 1) (lastOf (d.waits ++ [(i, s)]))
    rw [e]; exact hm7
   ·show n + 1 ≤ (d.waits ++ [(i, s)]).length
    rw [hlen]; omega
 by_cases hf : d.fuse = 0
 ·have := key true 90 (decide_eq_true hf) (if_pos hf) (Or.inl ⟨rfl, rfl⟩)
  rw [if_pos hf]; exact this
 ·have := key false 0 (decide_eq_false hf) (if_neg hf) (Or.inr ⟨rfl, rfl⟩)
  rw [if_neg hf]; exact this
theorem PK.nowb {T : List Nat} {b sb mb : Nat} {w w' : World} {cs : Array Value} {t : TypeId} (h : Kept [sb, b, mb] w w') (o : Own w' b cs t) (h1 : cs[1]? = some (.slice none 0 0)) : PK T b sb mb w w' :=
 ⟨h.os, h.tape, h.output, h.size, fun k hk _ e1 e2 e3 _ => h.block k hk (by simp [e1, e2, e3]), fun k hk => by
  obtain ⟨v, h2, h3⟩ := hk
  obtain ⟨hlt, h4⟩ := Array.getElem?_eq_some_iff.1 h1
  have h5 := o.cell 1 hlt
  rw [h2, h4] at h5
  injection h5 with h5
  subst h5
  simp [Value.ownBlock] at h3⟩
set_option maxRecDepth 100000 in
set_option maxHeartbeats 2000000 in
theorem dSettleAllP (b sb mb lo : Nat) (d : DK)  (w : World) (h : DiskAt w b sb mb lo d) (hfine : ∀ x ∈ d.waits, x.1 < d.stand.length) (hwl : d.waits.length ≤ 10000)  :
  Calls Tryz.prog 75 #[.pointer (some ⟨b, 0, none⟩), .func (.func 91) #[] #[]] w fun e w' => e = .returned (.tuple #[]) ∧ DiskAt w' b sb mb lo (settleD d (fun _ => true)) ∧ PK [] b sb mb w w' := by
 obtain ⟨wv, n, o, os, hw, hm, hn, g2, g3, g4, g5, g6, g7, g8, g9, g10, g11⟩ := h
 obtain ⟨p, c, rfl⟩ := own_shape hw
 obtain ⟨c0, c1, c2, c3, c4, c5⟩ := o.c6
 obtain ⟨st, ws, fu, op, dn⟩ := d
 simp only at *
 go_enter Tryz.func75, Tryz.ntmps75
 go_wp2_with fail
 go_loopw [11] (fun i wr => ∃ k : Nat, k ≤ ws.length ∧ i = .int .i64 k ∧ Own wr sb (scells (sk st ws (fun _ => true) k)) 9 ∧ Kept [sb] w wr) (fun i _ => ws.length - (intOf i).toNat)
 case atStart => exact ⟨0, by omega, rfl, os, Kept.refl _ _⟩
 case round =>
  obtain ⟨k, hk, rfl, os2, hK⟩ := hrel
  have o2 := hK.own o (by simp; omega)
  have hw2 := ownsRow_kept hw hK (by simp; omega)
  by_cases hlt : k < ws.length
  ·obtain ⟨gw, rfl, hgw⟩ : ∃ gw, p = some ⟨gw, 0, none⟩ ∧ lo ≤ gw := by
    rcases hw2.2 with ⟨e1, e2⟩ | ⟨g', cap, cur, e1, hge, _⟩
    ·omega
    ·injection e1 with e1
     exact ⟨g', e1, hge⟩
   obtain ⟨q1, q2⟩ := wcells_get ws k hlt
   have w1c := World.ownsRow.cells hw2 rfl (k * 2) _ q1
   have w2c := World.ownsRow.cells hw2 rfl (k * 2 + 1) _ q2
   rw [Go.WideShapes.add_plain, Nat.zero_add] at w1c w2c
   have hat : ws[k].1 < st.length := hfine _ (List.getElem_mem _)
   have hsl : (sk st ws (fun _ => true) k).length = st.length := sk_len _ _ _ _
   have hstep := sk_succ st ws (fun _ => true) k hlt
   obtain ⟨d0, d1, d2, d3, d4, d5⟩ := o2.c6
   have hgs : gw < wr.heap.size := lt_of_cell w1c
   have hsbl := os2.lt
   have HST := Lib.hid hstep
   have HLT := Lib.hid hlt
   have HSL := Lib.hid hsl
   clear hstep hsl q1 q2 c0 c1 c2 c3 c4 c5
   generalize ws[k].1 = at1 at *
   generalize ws[k].2 = dt at *
   have i1 : (at1 : Int) < st.length := by omega
   have ot := Own.new wr #[.int .i64 (at1 : Int), .string (bs dt)] 206
   have os3 := os2.alloc (.cells #[.int .i64 (at1 : Int), .string (bs dt)] 206)
   have o3 := o2.alloc (.cells #[.int .i64 (at1 : Int), .string (bs dt)] 206)
   have hK3 := hK.alloc (.cells #[.int .i64 (at1 : Int), .string (bs dt)] 206)
   obtain ⟨e0, e1, e2, e3, e4, e5⟩ := o3.c6
   obtain ⟨f0, f1⟩ := ot.c2
   have hsize : at1 < (scells (sk st ws (fun _ => true) k)).size := by simp [scells, HSL.out]; exact hat
   obtain ⟨v0, s0⟩ : ∃ v0, (wr.alloc (.cells #[.int .i64 (at1 : Int), .string (bs dt)] 206)).cell? ⟨sb, at1, none⟩ = some v0 := ⟨_, os3.cell at1 hsize⟩
   have zs := os3.free at1
   go_wp2_with fail
   refine (dAll _ _).mono ?_; rintro e w' ⟨rfl, rfl⟩
   go_wp2_with fail
   go_region
   have hfin : Own ((wr.setCell ⟨sb, at1, none⟩ (.string (bs dt))).alloc (.cells #[.int .i64 (at1 : Int), .string (bs dt)] 206)).drew sb (scells (sk st ws (fun _ => true) (k + 1))) 9 := by
    rw [HST.out]
    simp only [if_true]
    rw [← scells_set]
    exact ((os2.set at1 _).alloc _).drew
   have hkf := ((hK.setCell (p := ⟨sb, at1, none⟩) (Or.inl (by simp)) (.string (bs dt))).alloc (.cells #[.int .i64 (at1 : Int), .string (bs dt)] 206)).drew
   go_wp2_with fail
   go_roundw
   case rel => exact ⟨k + 1, HLT.out, by go_num, hfin, hkf⟩
   case measure => (have hh := HLT.out; simp [intOf]; omega)
  ·obtain rfl : k = ws.length := by omega
   obtain ⟨d0, d1, d2, d3, d4, d5⟩ := o2.c6
   have z2 := o2.z6
   have hm2 := hm.kept hK (by simp; omega)
   have hm3 := hm2.other (p := ⟨b, 1, none⟩) (by show mb ≠ b; omega) (.slice none 0 0)
   have os3 := os2.other (p := ⟨b, 1, none⟩) (by show sb ≠ b; omega) (.slice none 0 0)
   have o3 := o2.set 1 (.slice none 0 0)
   have hsx : (wr.setCell ⟨b, 1, none⟩ (.slice none 0 0)).heap.size = wr.heap.size := by simp [World.setCell]
   have hk3 := (hK.mono (T := [sb, b, mb]) (by simp)).setCell (p := ⟨b, 1, none⟩) (Or.inl (by simp)) (.slice none 0 0)
   have hlen : (sk st ws (fun _ => true) ws.length).length = st.length := sk_len _ _ _ _
   obtain ⟨w7, hrun7, hm7, hk7⟩ := hm3.clears 0
   go_wp2_with fail
   go_end0
   have hsz7 := hk7.size
   have hszK := hK.size
   refine ⟨rfl, ⟨.slice none 0 0, 0, ?_, hk7.own os3 (by simp; omega), World.ownsRow_nil _ _ _ _, hm7, Nat.le_refl _, g2, g3, g4, g5, by omega, ?_, ?_, g9, g10, g11⟩, ?_⟩
   ·have := hk7.own o3 (by simp; omega)
    show Own w7 b #[.slice (some ⟨sb, 0, none⟩) (sk st ws (fun _ => true) ws.length).length (sk st ws (fun _ => true) ws.length).length, _, _, _, _, _] _
    rw [hlen]; exact this
   ·show 1 ≤ (sk st ws (fun _ => true) ws.length).length
    rw [hlen]; exact g7
   ·show (sk st ws (fun _ => true) ws.length).length ≤ 8192
    rw [hlen]; exact g8
   ·exact PK.nowb (hk3.trans (hk7.mono (by simp))) (hk7.own o3 (by simp; omega)) (by simp)
theorem PK.of_b {b sb mb : Nat} {w w' : World} (h : Kept [b] w w') (hc : w'.cell? ⟨b, 1, none⟩ = w.cell? ⟨b, 1, none⟩) : PK [] b sb mb w w' :=
 ⟨h.os, h.tape, h.output, h.size, fun k hk _ e1 _ _ _ => h.block k hk (by simpa using e1), fun k hk => Or.inl ((WB.of_cell hc).1 hk)⟩
set_option maxRecDepth 100000 in
set_option maxHeartbeats 2000000 in
theorem dFlush_cutP (b sb mb lo : Nat) (d : DK) (w : World) (h : DiskAt w b sb mb lo d) (hd : d.down = false) (hf : d.fuse = 0) (ho : d.ops < 100000) : Calls Tryz.prog 39 #[.pointer (some ⟨b, 0, none⟩)] w fun e w' => e = .returned (.int .i64 90) ∧ DiskAt w' b sb mb lo (opD d) ∧ PK [] b sb mb w w' := by
 have hr := dReady b sb mb lo d w h
 have hop := dOperateP b sb mb lo d w h ho
 unfold readyOf at hr
 rw [hd] at hr
 rw [decide_eq_true hf] at hop
 simp only [Bool.false_eq_true, if_false] at hr
 clear h hd hf
 go_enter Tryz.func39, Tryz.ntmps39
 go_wp2_with fail
 refine hr.mono ?_; rintro e w' ⟨rfl, rfl⟩
 go_wp2_with fail
 refine hop.mono ?_; rintro e w1 ⟨rfl, h1, k1, hc1⟩
 go_wp2_with fail
 go_ret
 exact ⟨rfl, h1, PK.of_b k1 hc1⟩
set_option maxRecDepth 100000 in
set_option maxHeartbeats 2000000 in
theorem dFlushP (b sb mb lo : Nat) (d : DK) (w : World) (h : DiskAt w b sb mb lo d) (hd : d.down = false) (hf : d.fuse ≠ 0) (ho : d.ops < 100000) (hfine : ∀ x ∈ d.waits, x.1 < d.stand.length) (hwl : d.waits.length ≤ 10000) :
  Calls Tryz.prog 39 #[.pointer (some ⟨b, 0, none⟩)] w fun e w' => e = .returned (.int .i64 0) ∧ DiskAt w' b sb mb lo (settleD (opD d) (fun _ => true)) ∧ PK [] b sb mb w w' := by
 have hr := dReady b sb mb lo d w h
 have hop := dOperateP b sb mb lo d w h ho
 have hset := fun W (hW : DiskAt W b sb mb lo (opD d)) => dSettleAllP b sb mb lo (opD d) W hW hfine hwl
 unfold readyOf at hr
 rw [hd] at hr
 rw [decide_eq_false hf] at hop
 simp only [Bool.false_eq_true, if_false] at hr
 clear h hd hf
 have HSET := Lib.hid hset
 clear hset
 go_enter Tryz.func39, Tryz.ntmps39
 go_wp2_with fail
 refine hr.mono ?_; rintro e w' ⟨rfl, rfl⟩
 go_wp2_with fail
 refine hop.mono ?_; rintro e w1 ⟨rfl, h1, k1, hc1⟩
 go_wp2_with fail
 refine (HSET.out _ h1).mono ?_; rintro e w2 ⟨rfl, h2, k2⟩
 go_wp2_with fail
 go_ret
 exact ⟨rfl, h2, (PK.of_b k1 hc1).trans k2⟩
end Go.Proofs.YtdkimcnlhmhpgaaGreat

/- -/
namespace Go.Proofs.YtdkimcnlhmhpgaaGreat
open Go.RowKit Go.Sort Go.Shelf
def encR (x : Int × Int) : List Value := [.int .i64 x.1, .int .i64 x.2]
theorem flat_enc (l : List (Int × Int)) : flatK encR 2 l.toArray = (rcells l).toArray := by
 apply Array.ext
 ·rw [size_flatK, List.size_toArray, List.size_toArray, rcells_len]
 ·intro t h1 h2
  have ht : t < l.length * 2 := by simpa using h1
  have h := get_flatK encR 2 l.toArray t (by simpa using ht)
  rw [getElem!_pos _ t h1] at h
  rw [h]
  have hi : t / 2 < l.length := by omega
  rw [getElem!_pos l.toArray (t / 2) (by simpa using hi)]
  obtain ⟨g1, g2⟩ := rcells_get l (t / 2) hi
  rcases Nat.mod_two_eq_zero_or_one t with hm | hm
  ·have e : t / 2 * 2 = t := by omega
   rw [e] at g1
   rw [hm]
   have := (List.getElem?_eq_some_iff.1 g1).2
   simp only [List.getElem_toArray]
   rw [this]; rfl
  ·have e : t / 2 * 2 + 1 = t := by omega
   rw [e] at g2
   rw [hm]
   have := (List.getElem?_eq_some_iff.1 g2).2
   simp only [List.getElem_toArray]
   rw [this]; rfl
theorem lt_cmpI (x y : Int × Int) : ltOf (fun x y : Int × Int => cmpI x.1 y.1) x y = decide (x.1 < y.1) := by
 unfold ltOf cmpI
 by_cases h1 : x.1 < y.1
 ·simp [h1]
 ·by_cases h2 : y.1 < x.1 <;> simp [h1, h2]
theorem swo_cmpI : SWO (ltOf fun x y : Int × Int => cmpI x.1 y.1) := {
 irrefl := fun x => by rw [lt_cmpI]; simp
 trans := fun x y z h1 h2 => by rw [lt_cmpI] at *; simp at *; omega
 ntrans := fun x y z h1 h2 => by rw [lt_cmpI] at *; simp at *; omega }
theorem xorder1 (x y : Int × Int) (W : World) : Calls Tryz.prog 185 #[.agg #[.int .i64 x.1, .int .i64 x.2], .agg #[.int .i64 y.1, .int .i64 y.2]] W fun e w' => e = .returned (.int .i64 (cmpI x.1 y.1)) ∧ ∃ q os', w' = grow (W.drewN q) os' := by
 have hcon := fun W' => xcmp x.1 y.1 W'
 generalize cmpI x.1 y.1 = r at hcon ⊢
 go_enter Tryz.func185, Tryz.ntmps185
 go_wp2_with (go_at_call 186; refine (hcon _).mono ?_; rintro e w' ⟨rfl, rfl⟩)
 go_ret
 exact ⟨rfl, 0, _, by rw [alloc_eq_grow, alloc_eq_grow, grow_grow]; rfl⟩
theorem xorder2 (x y : Int × Int) (W : World) : Calls Tryz.prog 238 #[.agg #[.int .i64 x.1, .int .i64 x.2], .agg #[.int .i64 y.1, .int .i64 y.2]] W fun e w' => e = .returned (.int .i64 (cmpI x.1 y.1)) ∧ ∃ q os', w' = grow (W.drewN q) os' := by
 have hcon := fun W' => xcmp x.1 y.1 W'
 generalize cmpI x.1 y.1 = r at hcon ⊢
 go_enter Tryz.func238, Tryz.ntmps238
 go_wp2_with (go_at_call 186; refine (hcon _).mono ?_; rintro e w' ⟨rfl, rfl⟩)
 go_ret
 exact ⟨rfl, 0, _, by rw [alloc_eq_grow, alloc_eq_grow, grow_grow]; rfl⟩
theorem sort_row {w : World} {g cap base : Nat} {l : List (Int × Int)} (h : w.ownsRow base 128 2 (.slice (some ⟨g, 0, none⟩) l.length cap) l.length (rcells l)) (m : Nat) (d' : Array (Int × Int)) (os : Array Obj) (hd : d'.size = l.length) :
  (sortWorldK encR 2 w g 0 m d' os).ownsRow base 128 2 (.slice (some ⟨g, 0, none⟩) l.length cap) l.length (rcells d'.toList) ∧ Kept [g] w (sortWorldK encR 2 w g 0 m d' os) := by
 obtain ⟨hl, ⟨e, _⟩ | ⟨g', cap', cur, e, hb, hg, hnc, hcm, hcs, htake⟩⟩ := h
 ·simp at e
 ·injection e with e e2 e3
  injection e with e
  injection e with e _ _
  subst e e3
  have hlt := lt_of_block hg
  have hblock : (sortWorldK encR 2 w g 0 m d' os).heap[g]? = some (.cells (putCells id 0 (flatK encR 2 d') cur) 128 (0, 0)) := by
   unfold sortWorldK
   rw [heap_grow_old _ _ (by show g < (putRowK encR 2 (Go.Sort.ahead w m) g 0 d').heap.size; simp [putRowK, putRow, mapBlock, Go.Sort.ahead]; exact hlt)]
   simp [putRowK, putRow, mapBlock, Go.Sort.ahead, Array.getElem?_modify, hg, onCells]
  have hsz : (putCells id 0 (flatK encR 2 d') cur).size = cur.size := by simp [putCells]
  refine ⟨⟨by rw [rcells_len, ← hd]; simp, Or.inr ⟨g, cap, _, rfl, hb, hblock, hnc, hcm, by rw [hsz, hcs], ?_⟩⟩, ⟨rfl, rfl, rfl, ?_, fun k hk hS => ?_⟩⟩
  ·have hf := flat_enc d'.toList
   rw [Array.toArray_toList] at hf
   rw [hf]
   apply List.ext_getElem?
   intro i
   by_cases hi : i < l.length * 2
   ·rw [List.getElem?_take_of_lt hi]
    have hic : i < cur.size := by rw [hcs]; have := Nat.mul_le_mul_right 2 hnc; omega
    have hir : i < (rcells d'.toList).length := by rw [rcells_len]; simp [hd]; exact hi
    rw [Array.getElem?_toList, List.getElem?_eq_getElem hir]
    unfold putCells
    rw [Array.getElem?_mapIdx, Array.getElem?_eq_getElem hic]
    simp only [Option.map_some, List.size_toArray, Nat.zero_add, Nat.sub_zero, id]
    rw [if_pos ⟨Nat.zero_le _, hir⟩, getElem!_pos _ i (by simpa using hir)]
    simp
   ·rw [List.getElem?_eq_none (by rw [List.length_take]; omega), List.getElem?_eq_none (by rw [rcells_len]; simp [hd]; omega)]
  ·unfold sortWorldK
   simp [putRowK, putRow, mapBlock, Go.Sort.ahead]
  ·have hne : g ≠ k := by simpa using fun e => hS (by simp [e])
   unfold sortWorldK
   rw [heap_grow_old _ _ (by show k < (putRowK encR 2 (Go.Sort.ahead w m) g 0 d').heap.size; simp [putRowK, putRow, mapBlock, Go.Sort.ahead]; exact hk)]
   simp [putRowK, putRow, mapBlock, Go.Sort.ahead, Array.getElem?_modify, hne]
def Rising (l : List (Int × Int)) : Prop := List.Pairwise (fun a b => a.1 ≤ b.1) l
theorem rising_of {d : Array (Int × Int)} (h : SortedIn (ltOf fun x y : Int × Int => cmpI x.1 y.1) 0 d.size d) : Rising d.toList := by
 unfold Rising
 rw [List.pairwise_iff_getElem]
 intro i j hi hj hij
 have hi' : i < d.size := by simpa using hi
 have hj' : j < d.size := by simpa using hj
 have := h i j (Nat.zero_le _) hij hj'
 rw [lt_cmpI, getElem!_pos d i hi', getElem!_pos d j hj'] at this
 simp at this
 simpa using this
def SortSays (base : Nat) (v : Value) (l : List (Int × Int)) (w : World) (e : Ending) (w' : World) : Prop :=
 e = .returned (.tuple #[]) ∧ ∃ l' : List (Int × Int), l'.Perm l ∧ Rising l' ∧ w'.ownsRow base 128 2 v l.length (rcells l') ∧ ∀ S, (∀ g, v.ownBlock = some g → g ∈ S) → Kept S w w'
theorem xsort_none (c : Nat) (p : Option Addr) (f : Nat) (w : World) : Calls Tryz.prog 271 #[.slice p 0 c, .int .i64 0, .int .i64 0, .func (.func f) #[] #[]] w fun e w' => e = .returned (.tuple #[]) ∧ w = w' := by
 go_enter Tryz.func271, Tryz.ntmps271
 go_wp2_with fail
 refine wp_loop_rounds 1 ?_
 rw [rounds_succ]
 go_wp2_with fail
 go_end0
 exact ⟨rfl, rfl⟩
theorem xpdq_none (c : Nat) (p : Option Addr) (lim : Int) (f : Nat) (w : World) : Calls Tryz.prog 239 #[.slice p 0 c, .int .i64 0, .int .i64 0, .int .i64 lim, .func (.func f) #[] #[]] w fun e w' => e = .returned (.tuple #[]) ∧ w = w' := by
 go_enter Tryz.func239, Tryz.ntmps239
 go_wp2_with fail
 refine wp_loop_rounds 1 ?_
 rw [rounds_succ]
 go_wp2_with (go_at_call 271; refine (xsort_none _ _ _ _).mono ?_; rintro e w' ⟨rfl, rfl⟩)
 (try simp only [Exit.inBlock, Exit.then]); refine bodyPost_ret (results_none rfl _ _ _) rfl ?_
 exact ⟨rfl, rfl⟩
theorem xsort (f base : Nat) (v : Value) (l : List (Int × Int)) (w : World) (h : w.ownsRow base 128 2 v l.length (rcells l)) (hl : l.length ≤ 1000000)
  (eg : ∀ args w, (callFunc f args).run Tryz.prog w = .ok (.enter f args) w)
  (hf : ∀ (x y : Int × Int) (W : World), Calls Tryz.prog f #[.agg #[.int .i64 x.1, .int .i64 x.2], .agg #[.int .i64 y.1, .int .i64 y.2]] W fun e w' => e = .returned (.int .i64 (cmpI x.1 y.1)) ∧ ∃ q os', w' = grow (W.drewN q) os') :
  Calls Tryz.prog 184 #[v, .func (.func f) #[] #[]] w (SortSays base v l w) := by
 by_cases h0 : l.length = 0
 ·have hl0 : l = [] := List.eq_nil_of_length_eq_zero h0
  subst hl0
  have H := Lib.hid h
  obtain ⟨p, c, rfl⟩ := own_shape h
  clear h hf eg hl
  have hb := fun W => Tryz.bits_Len 0 W (by omega) (by omega)
  go_enter Tryz.func184, Tryz.ntmps184
  go_wp2_with (first
   | (go_at_call 240; refine (hb _).mono ?_; rintro e w' ⟨rfl, rfl⟩)
   | (go_at_call 239; refine (xpdq_none _ _ _ _ _).mono ?_; rintro e w' ⟨rfl, rfl⟩))
  go_end0
  exact ⟨rfl, [], List.Perm.refl _, List.Pairwise.nil, H.out, fun S _ => Kept.refl _ _⟩
 ·obtain ⟨g, c, rfl, hb, hlt, hnc, hcm, hcell⟩ := ownsRow_at h (by omega)
  have hd : l.toArray.size = l.length := by simp
  have hH : HoldsK encR 2 w g 0 l.toArray := by
   intro j hj
   have hj2 : j < (rcells l).length := by rw [flat_enc] at hj; simpa using hj
   rw [flat_enc, Nat.zero_add]
   refine ⟨?_, World.ownsRow.frozenAt h j⟩
   rw [hcell j _ (List.getElem?_eq_getElem hj2), getElem!_pos _ j (by simpa using hj2)]
   simp
  have hcl : CmpLays Tryz.prog f #[] encR 2 (fun x y => cmpI x.1 y.1) g 0 l.toArray.size w := fun _ _ _ _ x y => hf x y _
  have hcon := AnyQ.slices_SortFunc Tryz.sortRun 2 Tryz.isAgg128 Tryz.sizeOf128 encR (fun _ => rfl) (fun x v hv => by simp [encR] at hv; rcases hv with rfl | rfl <;> rfl) (fun x y => cmpI x.1 y.1) swo_cmpI f #[] g 0 c l.toArray w eg hcl hH hlt (by rw [hd]; omega)
  rw [hd] at hcon
  refine hcon.mono fun e w' ⟨he, d', n, os, hp, hs, hw⟩ => ?_
  obtain ⟨hp1, _, hp3⟩ := hp
  have hds : d'.size = l.length := by rw [hp1, hd]
  obtain ⟨r1, r2⟩ := sort_row h n d' os hds
  rw [← hds] at hs
  have hperm : d'.toList.Perm l := by
   have e1 : (d'.extract 0 l.length).toList = d'.toList := by rw [← hds]; simp
   have e2 : (l.toArray.extract 0 l.length).toList = l := by simp
   rwa [e1, e2] at hp3
  subst hw
  exact ⟨he, d'.toList, hperm, rising_of hs, r1, fun S hS => r2.mono (fun x hx => by
   have hx : x = g := by simpa using hx
   subst hx; exact hS x (by simp [Value.ownBlock]))⟩
theorem xsort1 (base : Nat) (v : Value) (l : List (Int × Int)) (w : World) (h : w.ownsRow base 128 2 v l.length (rcells l)) (hl : l.length ≤ 1000000) :
  Calls Tryz.prog 184 #[v, .func (.func 185) #[] #[]] w (SortSays base v l w) :=
 xsort 185 base v l w h hl (enters_of Tryz.func185 (by kernel_rfl) rfl) xorder1
theorem xsort2 (base : Nat) (v : Value) (l : List (Int × Int)) (w : World) (h : w.ownsRow base 128 2 v l.length (rcells l)) (hl : l.length ≤ 1000000) :
  Calls Tryz.prog 184 #[v, .func (.func 238) #[] #[]] w (SortSays base v l w) :=
 xsort 238 base v l w h hl (enters_of Tryz.func238 (by kernel_rfl) rfl) xorder2
end Go.Proofs.YtdkimcnlhmhpgaaGreat
