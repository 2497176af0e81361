/- Walks of the document's disk (layer 9): Power, Flush; a fuse laid; New, Load. -/
import Derived.Test.YtdnbddhjdokbfaaG21
import Derived.Deep.RegionLaw
import Derived.Laws.BitsAllLaws
namespace Go.Proofs.Ytdnbddhjdokbfaa
open Go.RowKit Go.Maps
set_option linter.unusedVariables false
set_option linter.unusedSimpArgs false

theorem RAt.nums {w w' : World} {r lo : Nat} {d d' : DK} (h : RAt w r lo d) (k : Kept [r] w w') (hs : d'.stand = d.stand) (hw : d'.waits = d.waits) (hf : (Lit.int .i64 d'.fuse).wf = true) (ho : d'.ops ≤ 100000)
    (hown : ∀ v0 v1, Own w r #[v0, v1, .int .i64 d.fuse, .int .i64 d.ops, .bool d.down] 59 → Own w' r #[v0, v1, .int .i64 d'.fuse, .int .i64 d'.ops, .bool d'.down] 59) : RAt w' r lo d' := by
  obtain ⟨sv, wv, o, hsr, hwr, h1, h2, h3, h4, h5, h6, h7⟩ := h
  exact ⟨sv, wv, hown _ _ o, by rw [hs]; exact ownsRow_keptO hsr k o (by decide), by rw [hw]; exact ownsRow_keptO hwr k o (by decide), Nat.le_trans h1 k.size, h2, by rw [hs]; exact h3, by rw [hs]; exact h4, hf, ho, by rw [hw]; exact h7⟩
theorem qPower (r lo : Nat) (d : DK) (v : Value) (keep : List Bool) (lo1 hi1 : Nat) (w : World) (h : RAt w r lo d) (hfine : ∀ x ∈ d.waits, x.1 < d.stand.length) (hb : BoolsIn w v keep lo1 hi1) :
    Calls Try.prog 56 #[.pointer (some ⟨r, 0, none⟩), v] w fun e w' => e = .returned (.tuple #[]) ∧ RAt w' r lo (powerD d keep) ∧ Kept [r] w w' := by
  have hst := qStandKeep r lo d v keep lo1 hi1 w h hfine hb
  have ho : d.ops ≤ 100000 := by obtain ⟨_, _, _, _, _, _, _, _, _, _, _, _, _, h3, _⟩ := h.five; exact h3
  obtain ⟨p, c, rfl⟩ := hb.shape
  have HS := Lib.hid hst
  have HO := Lib.hid ho
  clear hst hb h ho
  go_enter Try.func56, Try.ntmps56
  go_wp2_with fail
  refine HS.out.mono ?_; rintro e w2 ⟨rfl, h2, k2⟩
  obtain ⟨v0, v1, o2⟩ := h2.own
  obtain ⟨c0, c1, c2, c3, c4⟩ := o2.c5
  have z := o2.z5
  have kk := ((Kept.refl [r] w2).setCell (p := ⟨r, 2, none⟩) (Or.inl (by simp)) (.int .i64 (-1))).setCell (p := ⟨r, 4, none⟩) (Or.inl (by simp)) (.bool false)
  have hR := RAt.nums (d' := powerD d keep) h2 kk rfl rfl (by show (Lit.int .i64 (-1)).wf = true; rfl) HO.out (fun v0 v1 o => (o.set 2 _).set 4 _)
  have HR0 := Lib.hid hR
  clear hR h2 o2
  go_wp2_with fail
  go_end0
  exact ⟨rfl, HR0.out, k2.trans kk⟩
theorem qFlush_down (r lo : Nat) (d : DK) (w : World) (h : RAt w r lo d) (hd : d.down = true) : Calls Try.prog 55 #[.pointer (some ⟨r, 0, none⟩)] w fun e w' => e = .returned (.int .i64 90) ∧ w = w' := by
  obtain ⟨p, c, p', c', c0, c1, c2, c3, c4, _⟩ := h.five
  rw [hd] at c4
  clear h hd
  go_enter Try.func55, Try.ntmps55
  go_wp2_with fail
  go_ret
  exact ⟨rfl, rfl⟩
theorem qFlush_cut (r lo : Nat) (d : DK) (w : World) (h : RAt w r lo d) (hd : d.down = false) (hf : d.fuse = 0) (ho : d.ops < 100000) : Calls Try.prog 55 #[.pointer (some ⟨r, 0, none⟩)] w fun e w' => e = .returned (.int .i64 90) ∧ RAt w' r lo (opD d) ∧ Kept [r] w w' := by
  obtain ⟨p, c, p', c', c0, c1, c2, c3, c4, _⟩ := h.five
  have hop := qCut r lo d w h ho
  rw [decide_eq_true hf] at hop
  rw [hd] at c4
  clear h hd hf
  go_enter Try.func55, Try.ntmps55
  go_wp2_with (go_at_call 78; refine hop.mono ?_; rintro e w1 ⟨rfl, h1, k1⟩)
  go_ret
  exact ⟨rfl, h1, k1⟩
theorem qFlush (r lo : Nat) (d : DK) (w : World) (h : RAt w r lo d) (hd : d.down = false) (hf : d.fuse ≠ 0) (ho : d.ops < 100000) (hfine : ∀ x ∈ d.waits, x.1 < d.stand.length) :
    Calls Try.prog 55 #[.pointer (some ⟨r, 0, none⟩)] w fun e w' => e = .returned (.int .i64 0) ∧ RAt w' r lo (settleD (opD d) (fun _ => true)) ∧ Kept [r] w w' := by
  obtain ⟨p, c, p', c', c0, c1, c2, c3, c4, _⟩ := h.five
  have hop := qCut r lo d w h ho
  have hset := fun W (hW : RAt W r lo (opD d)) => qStandAll r lo (opD d) (.slice none 0 0) W hW hfine
  rw [decide_eq_false hf] at hop
  rw [hd] at c4
  have HSET := Lib.hid hset
  clear h hd hf hset hfine
  go_enter Try.func55, Try.ntmps55
  go_wp2_with (first
    | (go_at_call 78; refine hop.mono ?_; rintro e w1 ⟨rfl, h1, k1⟩)
    | (go_at_call 79; refine (HSET.out _ h1).mono ?_; rintro e w2 ⟨rfl, h2, k2⟩))
  go_ret
  exact ⟨rfl, h2, k1.trans k2⟩
/-- a fuse laid by hand. -/
def fuseR (d : DK) (n : Int) : DK := ⟨d.stand, d.waits, n, d.ops, d.down⟩
theorem RAt.fuse {w : World} {r lo : Nat} {d : DK} (h : RAt w r lo d) (n : Int) (hn : (Lit.int .i64 n).wf = true) : RAt (w.setCell ⟨r, 2, none⟩ (.int .i64 n)) r lo (fuseR d n) ∧ Kept [r] w (w.setCell ⟨r, 2, none⟩ (.int .i64 n)) := by
  have kk := (Kept.refl [r] w).setCell (p := ⟨r, 2, none⟩) (Or.inl (by simp)) (.int .i64 n)
  have ho : d.ops ≤ 100000 := by obtain ⟨_, _, _, _, _, _, _, _, _, _, _, _, _, h3, _⟩ := h.five; exact h3
  exact ⟨RAt.nums (d' := fuseR d n) h kk rfl rfl hn ho (fun v0 v1 o => o.set 2 _), kk⟩
set_option maxRecDepth 100000 in
set_option maxHeartbeats 2000000 in
theorem qNew (n : Nat) (w : World) (h1 : 1 ≤ n) (h2 : n ≤ 8192) :
    Calls Try.prog 24 #[.int .i64 n] w fun e w' => e = .returned (.pointer (some ⟨w.heap.size, 0, none⟩)) ∧ RAt w' w.heap.size w.heap.size (newD (List.replicate n zeroS)) ∧ Kept [] w w' := by
  obtain ⟨i0, q0, q1, q2, q3⟩ := infoStr
  have hmk := run_make_bytes128
  have hcv := run_conv128
  have o := Own.new w #[.slice none 0 0, .slice none 0 0, .int .i64 (-1), .int .i64 0, .bool false] 59
  have i1 : (n : Int) ≤ 8192 := by omega
  have i2 : (1 : Int) ≤ n := by omega
  generalize zeroS = Z at *
  go_enter Try.func24, Try.ntmps24
  go_wp2_with fail
  go_loopw [4] (fun i wr => ∃ (k : Nat) (v : Value), k ≤ n ∧ i = .int .i64 k ∧ Own wr w.heap.size #[v, .slice none 0 0, .int .i64 (-1), .int .i64 0, .bool false] 59 ∧ wr.ownsRow w.heap.size 9 1 v k (svals (List.replicate k Z)) ∧ Kept [] w wr) (fun i _ => n - (intOf i).toNat)
  case atStart => exact ⟨0, _, by omega, rfl, o, World.ownsRow_nil _ _ _ _, (Kept.refl _ _).alloc _⟩
  case round =>
    obtain ⟨k, v, hk, rfl, orr, hrow, hK⟩ := hrel
    by_cases hlt : k < n
    · have HLT := Lib.hid hlt
      have i3 : (k : Int) < n := by omega
      obtain ⟨p, c, rfl⟩ := own_shape hrow
      have r3 : k + 1 ≤ maxLen := by unfold maxLen; omega
      have r4 : (k + 1) * 16 ≤ 140737488355328 := by omega
      have hsz := hK.size
      have rlt := orr.lt
      obtain ⟨c0, _⟩ := orr.c5
      have zr := orr.free 0
      have hcv2 : (convert 38 9 (.slice (some ⟨wr.heap.size, 0, none⟩) 128 128)).run Try.prog (wr.alloc (.cells (Array.replicate 128 (.int .u8 0)) 5)).drew = .ok (.string (bs Z)) (wr.alloc (.cells (Array.replicate 128 (.int .u8 0)) 5)).drew := hcv wr.drew
      have hnb : (((wr.alloc (.cells (Array.replicate 128 (.int .u8 0)) 5)).alloc (.cells #[.string (bs Z)] 9)).drew).heap[wr.heap.size + 1]? = some (.cells #[.string (bs Z)] 9 (0, 0)) := by
        have := heap_alloc_new (wr.alloc (.cells (Array.replicate 128 (.int .u8 0)) 5)) (.cells #[.string (bs Z)] 9)
        rw [World.size_alloc] at this
        exact this
      have HNB := Lib.hid hnb
      clear hnb
      go_wp2_with fail
      go_region_law (first
        | (refine step_append_lies _ (by rfl) (.tmp 16) (.tmp 19) 56 (by rfl) w.heap.size 9 i0 (.string ⟨#[]⟩) 1 16 Try.underlying56 q0 q1 q2 q3 rfl (by decide) _ _ _ (by rfl) (World.ownsRow.drew (World.ownsRow.alloc (World.ownsRow.alloc hrow _) _)) ⟨wr.heap.size + 1, 0, none⟩ 1 1 [.string (bs Z)] (by rfl) rfl (World.news_of_block HNB.out) (by intro u hu; simp at hu; subst hu; rfl) (by decide) r3 r4 (by simp; omega) (wr.heap.size + 2) (by simp) ?_; intro g3 cap3 w5 o3 gr3 at3 lt3; have og5 := own_grown (World.ownsRow.drew (World.ownsRow.alloc (World.ownsRow.alloc hrow _) _)) gr3 (Own.drew ((orr.alloc _).alloc _)) (by decide); have hc5 := Own.cell og5 0 (by simp); have hf5 := og5.free 0))
      all_goals go_wp2_with fail
      all_goals
        have hKf : Kept [] w (w5.setCell ⟨w.heap.size, 0, none⟩ (.slice (some ⟨g3, 0, none⟩) (k + 1) cap3)) := Kept.setCell (Kept.grown (Kept.drew ((hK.alloc _).alloc _)) gr3 (fun j hj => Or.inr (World.ownsRow.lt hrow j hj).1)) (p := ⟨w.heap.size, 0, none⟩) (Or.inr (Nat.le_refl _)) _
        have o6 := ownsRow_other o3 (p := ⟨w.heap.size, 0, none⟩) (own_row_ne o3 og5 (by decide)) (.slice (some ⟨g3, 0, none⟩) (k + 1) cap3)
        have ec : svals (List.replicate (k + 1) Z) = svals (List.replicate k Z) ++ [.string (bs Z)] := by unfold svals; rw [List.replicate_succ']; simp
        rw [← ec] at o6
        refine ⟨⟨k + 1, _, HLT.out, by go_num, og5.set 0 _, o6, hKf⟩, ?_⟩
        have hh := HLT.out
        simp [intOf]; omega
    · obtain rfl : k = n := by omega
      go_wp2_with fail
      go_ret
      refine ⟨rfl, ⟨v, .slice none 0 0, orr, ?_, World.ownsRow_nil _ _ _ _, hK.size, Nat.le_refl _, ?_, ?_, rfl, Nat.zero_le _, Nat.zero_le _⟩, hK⟩
      · show wr.ownsRow _ _ 1 v (List.replicate k Z).length (svals (List.replicate k Z))
        rw [List.length_replicate]; exact hrow
      · show 1 ≤ (List.replicate k Z).length
        rw [List.length_replicate]; omega
      · show (List.replicate k Z).length ≤ 8192
        rw [List.length_replicate]; omega
end Go.Proofs.Ytdnbddhjdokbfaa

/- Walk of layer 9 (disk): bytes that stand are changed. -/
namespace Go.Proofs.Ytdnbddhjdokbfaa
open Go.RowKit Go.Maps
set_option linter.unusedVariables false
set_option linter.unusedSimpArgs false

/-- block g holds bytes of the call's own, the first of them l's. -/
def BytesAt (w : World) (g : Nat) (l : List UInt8) : Prop :=
  ∃ cs fr, w.heap[g]? = some (.cells cs 5 fr) ∧ l.length ≤ cs.size ∧ (fr.2 = 0 ∨ cs.size ≤ fr.1) ∧ ∀ j (h : j < l.length), cs[j]? = some (.int .u8 (l[j].toNat : Int))
section
variable {w w' : World} {g : Nat} {l : List UInt8}
theorem BytesAt.lt (h : BytesAt w g l) : g < w.heap.size := by obtain ⟨cs, fr, h1, _⟩ := h; exact lt_of_block h1
theorem BytesAt.cell (h : BytesAt w g l) (j : Nat) (hj : j < l.length) : w.cell? ⟨g, j, none⟩ = some (.int .u8 (l[j].toNat : Int)) := by
  obtain ⟨cs, fr, h1, h2, h3, h4⟩ := h
  have := h4 j hj
  simp [World.cell?, h1, this]
theorem BytesAt.free (h : BytesAt w g l) (j : Nat) (hj : j < l.length) : w.frozen? ⟨g, j, none⟩ = false := by
  obtain ⟨cs, fr, h1, h2, h3, h4⟩ := h
  simp [World.frozen?, h1]
  omega
theorem BytesAt.drew (h : BytesAt w g l) : BytesAt w.drew g l := h
theorem BytesAt.kept {S : List Nat} (h : BytesAt w g l) (k : Kept S w w') (hS : g ∉ S) : BytesAt w' g l := by
  obtain ⟨cs, fr, h1, r⟩ := h
  exact ⟨cs, fr, (k.block g (lt_of_block h1) hS).trans h1, r⟩
theorem BytesAt.set (h : BytesAt w g l) (j : Nat) (hj : j < l.length) (c : UInt8) : BytesAt (w.setCell ⟨g, j, none⟩ (.int .u8 (c.toNat : Int))) g (l.set j c) := by
  obtain ⟨cs, fr, h1, h2, h3, h4⟩ := h
  refine ⟨cs.setIfInBounds j (.int .u8 (c.toNat : Int)), fr, ?_, by simpa using h2, by simpa using h3, fun i hi => ?_⟩
  · simp [World.setCell, Array.getElem?_modify, h1]
  · have hi' : i < l.length := by simpa using hi
    by_cases e : j = i
    · subst e
      rw [Array.getElem?_setIfInBounds_self_of_lt (by omega)]
      simp
    · rw [Array.getElem?_setIfInBounds_ne e, h4 i hi']
      simp [List.getElem_set_ne e]
theorem BytesAt.bytes (h : BytesAt w g l) : Lib.Bytes w g 0 (bs l) := by
  intro i hi
  have hi' : i < l.length := by rw [← bs_size]; exact hi
  rw [Nat.zero_add, h.cell i hi']
  rfl
end
/-- a text made bytes. -/
theorem conv_bytes (l : List UInt8) (w : World) : ∃ w' cap, (convert 9 38 (.string (bs l))).run Try.prog w = .ok (.slice (some ⟨w.heap.size, 0, none⟩) l.length cap) w' ∧ BytesAt w' w.heap.size l ∧ Kept [] w w' := by
  have h := Lib.run_convert_string_bytes (P := Try.prog) w 9 38 5 (bs l) Try.underlying9 Try.underlying38 Try.underlying5
  rw [bs_size] at h
  refine ⟨_, _, h, ⟨_, _, Lib.bytesWorld_at_new _ _ _, ?_, Or.inr (Nat.le_refl _), fun j hj => ?_⟩, ⟨rfl, rfl, rfl, ?_, fun k hk _ => Lib.bytesWorld_at_old _ _ _ k hk⟩⟩
  · unfold Lib.bytesCells
    rw [Array.size_append]
    simp [bs]
  · unfold Lib.bytesCells
    rw [Array.getElem?_append_left (by simp [bs]; exact hj)]
    simp [bs, hj]
  · rw [Lib.bytesWorld_size]; omega
/-- bytes made a text. -/
theorem conv_text (l : List UInt8) (g cap : Nat) (w : World) (h : BytesAt w g l) : (convert 38 9 (.slice (some ⟨g, 0, none⟩) l.length cap)).run Try.prog w = .ok (.string (bs l)) w := by
  have h2 := Lib.run_convert_whole (P := Try.prog) w 38 5 9 Try.underlying38 Try.underlying5 Try.underlying9 g 0 (bs l) h.bytes cap
  rw [bs_size] at h2
  exact h2
theorem conv_text_n (l : List UInt8) (n g cap : Nat) (w : World) (h : BytesAt w g l) (hn : l.length = n) : (convert 38 9 (.slice (some ⟨g, 0, none⟩) n cap)).run Try.prog w = .ok (.string (bs l)) w := by subst hn; exact conv_text l g cap w h
/-- the first k bytes of 'by' laid by xor over what stands, from 'at' on. -/
def spoilTo (l : List (List UInt8)) (a : Nat) (by_ : List UInt8) : Nat → List (List UInt8)
  | 0 => l
  | k + 1 => (spoilTo l a by_ k).set ((a + k) / 128) (((spoilTo l a by_ k).getD ((a + k) / 128) []).set ((a + k) % 128) ((((spoilTo l a by_ k).getD ((a + k) / 128) []).getD ((a + k) % 128) 0) ^^^ by_.getD k 0))
theorem spoilTo_len (l : List (List UInt8)) (a : Nat) (by_ : List UInt8) (k : Nat) : (spoilTo l a by_ k).length = l.length := by
  induction k with
  | zero => rfl
  | succ k ih => unfold spoilTo; rw [List.length_set, ih]
theorem spoilTo_all (l : List (List UInt8)) (a : Nat) (by_ : List UInt8) (k : Nat) (h : ∀ s ∈ l, s.length = 128) (hk : a + k ≤ 128 * l.length) : ∀ s ∈ spoilTo l a by_ k, s.length = 128 := by
  induction k with
  | zero => exact h
  | succ k ih =>
    intro s hs
    unfold spoilTo at hs
    rcases List.mem_or_eq_of_mem_set hs with hs | hs
    · exact ih (by omega) s hs
    · have hi : (a + k) / 128 < (spoilTo l a by_ k).length := by rw [spoilTo_len]; omega
      rw [hs, List.length_set, List.getD_eq_getElem?_getD, List.getElem?_eq_getElem hi]
      exact ih (by omega) _ (List.getElem_mem _)
theorem DiskAt.stands {w w' : World} {b sb mb lo : Nat} {d : DK} (h : DiskAt w b sb mb lo d) (k : Kept [sb] w w') (l : List (List UInt8)) (hl : l.length = d.stand.length) (o : Own w' sb (scells l) 9) : DiskAt w' b sb mb lo ⟨l, d.waits, d.fuse, d.ops, d.down⟩ := by
  obtain ⟨wv, n, ob, os, hwr, hm, hn, h2, h3, h4, h5, h6, h7, h8, r⟩ := h
  exact ⟨wv, n, by show Own _ _ #[.slice (some ⟨sb, 0, none⟩) l.length l.length, _, _, _, _, _] _; rw [hl]; exact k.own ob (by simp; omega), o, ownsRow_kept hwr k (by simp; omega), hm.kept k (by simp; omega), hn, h2, h3, h4, h5, Nat.le_trans h6 k.size, by show 1 ≤ l.length; rw [hl]; exact h7, by show l.length ≤ 8192; rw [hl]; exact h8, r⟩
def spoilD (d : DK) (a : Nat) (by_ : List UInt8) : DK := ⟨spoilTo d.stand a by_ by_.length, d.waits, d.fuse, d.ops, d.down⟩
theorem u8_xor_val (a b : UInt8) : bits .xor .u8 (a.toNat : Int) (b.toNat : Int) = (((a ^^^ b).toNat : Nat) : Int) := by
  rw [u8_xor_nat _ _ a.toNat_lt b.toNat_lt, UInt8.toNat_xor]
end Go.Proofs.Ytdnbddhjdokbfaa

/- Walk of the document's disk (layer 9): bytes that stand are changed. -/
namespace Go.Proofs.Ytdnbddhjdokbfaa
open Go.RowKit Go.Maps
set_option linter.unusedVariables false
set_option linter.unusedSimpArgs false

theorem flat_get (l : List (List UInt8)) (h : ∀ s ∈ l, s.length = 128) (i p : Nat) (hi : i < l.length) (hp : p < 128) : l.flatten[128 * i + p]? = (l[i])[p]? := by
  induction l generalizing i with
  | nil => simp at hi
  | cons x l ih =>
    have hx := h x (List.mem_cons_self)
    rw [List.flatten_cons]
    cases i with
    | zero => rw [Nat.mul_zero, Nat.zero_add, List.getElem?_append_left (by omega)]; rfl
    | succ i =>
      rw [List.getElem?_append_right (by omega)]
      have e : 128 * (i + 1) + p - x.length = 128 * i + p := by omega
      rw [e, ih (fun s hs => h s (List.mem_cons_of_mem _ hs)) i (by simpa using hi)]
      rfl
theorem flat_set (l : List (List UInt8)) (h : ∀ s ∈ l, s.length = 128) (i p : Nat) (v : UInt8) (hi : i < l.length) (hp : p < 128) : (l.set i ((l[i]).set p v)).flatten = l.flatten.set (128 * i + p) v := by
  induction l generalizing i with
  | nil => simp at hi
  | cons x l ih =>
    have hx := h x (List.mem_cons_self)
    cases i with
    | zero =>
      show ((x.set p v) :: l).flatten = _
      rw [List.flatten_cons, List.flatten_cons, List.set_append_left _ _ (by omega), Nat.mul_zero, Nat.zero_add]
    | succ i =>
      have e1 : (x :: l).set (i + 1) (((x :: l)[i + 1]).set p v) = x :: l.set i ((l[i]'(by simpa using hi)).set p v) := rfl
      rw [e1, List.flatten_cons, List.flatten_cons, ih (fun s hs => h s (List.mem_cons_of_mem _ hs)) i (by simpa using hi), List.set_append_right _ _ (by omega)]
      have e : 128 * (i + 1) + p - x.length = 128 * i + p := by omega
      rw [e]
/-- the first k bytes of 'by' laid by xor over an image, from 'at' on. -/
def xorTo (l : List UInt8) (a : Nat) (by_ : List UInt8) : Nat → List UInt8
  | 0 => l
  | k + 1 => (xorTo l a by_ k).set (a + k) ((xorTo l a by_ k).getD (a + k) 0 ^^^ by_.getD k 0)
theorem xorTo_len (l : List UInt8) (a : Nat) (by_ : List UInt8) (k : Nat) : (xorTo l a by_ k).length = l.length := by
  induction k with
  | zero => rfl
  | succ k ih => unfold xorTo; rw [List.length_set, ih]
theorem spoil_flat (l : List (List UInt8)) (a : Nat) (by_ : List UInt8) (h : ∀ s ∈ l, s.length = 128) (k : Nat) (hk : a + k ≤ 128 * l.length) : (spoilTo l a by_ k).flatten = xorTo l.flatten a by_ k := by
  induction k with
  | zero => rfl
  | succ k ih =>
    have hall := spoilTo_all l a by_ k h (by omega)
    have hq : (a + k) / 128 < (spoilTo l a by_ k).length := by rw [spoilTo_len]; omega
    have hr : (a + k) % 128 < 128 := Nat.mod_lt _ (by omega)
    have he : 128 * ((a + k) / 128) + (a + k) % 128 = a + k := by omega
    have e1 : (spoilTo l a by_ k).getD ((a + k) / 128) [] = (spoilTo l a by_ k)[(a + k) / 128] := by rw [List.getD_eq_getElem?_getD, List.getElem?_eq_getElem hq]; rfl
    have e2 := flat_get (spoilTo l a by_ k) hall ((a + k) / 128) ((a + k) % 128) hq hr
    rw [he] at e2
    have e3 := flat_set (spoilTo l a by_ k) hall ((a + k) / 128) ((a + k) % 128) ((((spoilTo l a by_ k)[(a + k) / 128]).getD ((a + k) % 128) 0) ^^^ by_.getD k 0) hq hr
    rw [he] at e3
    rw [spoilTo, e1, e3, ih (by omega), xorTo]
    congr 2
    rw [List.getD_eq_getElem?_getD, List.getD_eq_getElem?_getD, ← e2, ih (by omega)]
theorem spoil_cut (l : List (List UInt8)) (a : Nat) (by_ : List UInt8) (h : ∀ s ∈ l, s.length = 128) (hk : a + by_.length ≤ 128 * l.length) : (List.range l.length).map (cutS (xorTo l.flatten a by_ by_.length)) = spoilTo l a by_ by_.length := by
  rw [← spoil_flat l a by_ h by_.length hk]
  have hall := spoilTo_all l a by_ by_.length h hk
  apply List.ext_getElem
  · rw [List.length_map, List.length_range, spoilTo_len]
  · intro i h1 h2
    rw [List.getElem_map, List.getElem_range]
    exact cut_flat _ hall i h2
end Go.Proofs.Ytdnbddhjdokbfaa
