/- Layer 9: what the document's disk is in memory. -/
import Derived.Test.YtdnbddhjdokbfaaG05
import Derived.Test.YtdnbddhjdokbfaaG19
namespace Go.Proofs.Ytdnbddhjdokbfaa
open Go.RowKit Go.Maps
set_option linter.unusedVariables false
set_option linter.unusedSimpArgs false

def svals (l : List (List UInt8)) : List Value := l.map fun s => Value.string (bs s)
theorem svals_len (l : List (List UInt8)) : (svals l).length = l.length := by simp [svals]
theorem svals_get (l : List (List UInt8)) (i : Nat) (h : i < l.length) : (svals l)[i]? = some (.string (bs l[i])) := by simp [svals, h]
theorem svals_one (l : List (List UInt8)) : ∀ u ∈ svals l, u.oneCell' = true := by
  intro u hu; simp only [svals, List.mem_map] at hu; obtain ⟨s, _, rfl⟩ := hu; rfl
theorem wcells_len (l : List (Nat × List UInt8)) : (wcells l).length = l.length * 2 := by
  induction l with
  | nil => rfl
  | cons a l ih =>
    have e : wcells (a :: l) = Value.int .i64 (a.1 : Int) :: Value.string (bs a.2) :: wcells l := rfl
    rw [e, List.length_cons, List.length_cons, ih, List.length_cons]; omega
theorem wcells_one (l : List (Nat × List UInt8)) : ∀ u ∈ wcells l, u.oneCell' = true := by
  induction l with
  | nil => intro u hu; cases hu
  | cons a l ih =>
    have e : wcells (a :: l) = Value.int .i64 (a.1 : Int) :: Value.string (bs a.2) :: wcells l := rfl
    rw [e]; intro u hu
    simp only [List.mem_cons] at hu
    rcases hu with rfl | rfl | hu
    · rfl
    · rfl
    · exact ih u hu
/-- the document's disk stands at r; its rows from lo on. -/
def RAt (w : World) (r lo : Nat) (d : DK) : Prop :=
  ∃ sv wv, Own w r #[sv, wv, .int .i64 d.fuse, .int .i64 d.ops, .bool d.down] 59 ∧
    w.ownsRow lo 9 1 sv d.stand.length (svals d.stand) ∧ w.ownsRow lo 123 2 wv d.waits.length (wcells d.waits) ∧
    lo ≤ w.heap.size ∧ lo ≤ r ∧ 1 ≤ d.stand.length ∧ d.stand.length ≤ 8192 ∧ (Lit.int .i64 d.fuse).wf = true ∧ d.ops ≤ 100000 ∧ d.waits.length ≤ 20000
theorem Own.c5 {w : World} {b : Nat} {x0 x1 x2 x3 x4 : Value} {t : TypeId} (h : Own w b #[x0, x1, x2, x3, x4] t) : w.cell? ⟨b, 0, none⟩ = some x0 ∧ w.cell? ⟨b, 1, none⟩ = some x1 ∧ w.cell? ⟨b, 2, none⟩ = some x2 ∧ w.cell? ⟨b, 3, none⟩ = some x3 ∧ w.cell? ⟨b, 4, none⟩ = some x4 :=
  ⟨h.cell 0 (by simp), h.cell 1 (by simp), h.cell 2 (by simp), h.cell 3 (by simp), h.cell 4 (by simp)⟩
theorem Own.z5 {w : World} {b : Nat} {x0 x1 x2 x3 x4 : Value} {t : TypeId} (h : Own w b #[x0, x1, x2, x3, x4] t) : w.frozen? ⟨b, 0, none⟩ = false ∧ w.frozen? ⟨b, 1, none⟩ = false ∧ w.frozen? ⟨b, 2, none⟩ = false ∧ w.frozen? ⟨b, 3, none⟩ = false ∧ w.frozen? ⟨b, 4, none⟩ = false :=
  ⟨h.free 0, h.free 1, h.free 2, h.free 3, h.free 4⟩
theorem RAt.five {w : World} {r lo : Nat} {d : DK} (h : RAt w r lo d) : ∃ p c p' c', w.cell? ⟨r, 0, none⟩ = some (.slice p d.stand.length c) ∧ w.cell? ⟨r, 1, none⟩ = some (.slice p' d.waits.length c') ∧ w.cell? ⟨r, 2, none⟩ = some (.int .i64 d.fuse) ∧ w.cell? ⟨r, 3, none⟩ = some (.int .i64 d.ops) ∧ w.cell? ⟨r, 4, none⟩ = some (.bool d.down) ∧
    w.ownsRow lo 9 1 (.slice p d.stand.length c) d.stand.length (svals d.stand) ∧ w.ownsRow lo 123 2 (.slice p' d.waits.length c') d.waits.length (wcells d.waits) ∧ 1 ≤ d.stand.length ∧ d.stand.length ≤ 8192 ∧ d.ops ≤ 100000 ∧ d.waits.length ≤ 20000 ∧ lo ≤ w.heap.size := by
  obtain ⟨sv, wv, o, hs, hw, h1, h2, h3, h4, h5, h6, h7⟩ := h
  obtain ⟨p, c, rfl⟩ := own_shape hs
  obtain ⟨p', c', rfl⟩ := own_shape hw
  obtain ⟨c0, c1, c2, c3, c4⟩ := o.c5
  exact ⟨p, c, p', c', c0, c1, c2, c3, c4, hs, hw, h3, h4, h6, h7, h1⟩
theorem RAt.own {w : World} {r lo : Nat} {d : DK} (h : RAt w r lo d) : ∃ v0 v1, Own w r #[v0, v1, .int .i64 d.fuse, .int .i64 d.ops, .bool d.down] 59 := by
  obtain ⟨sv, wv, o, _⟩ := h; exact ⟨sv, wv, o⟩
theorem RAt.drew {w : World} {r lo : Nat} {d : DK} (h : RAt w r lo d) : RAt w.drew r lo d := h
theorem DiskAt.own {w : World} {b sb mb lo : Nat} {d : DK} (h : DiskAt w b sb mb lo d) : ∃ cs, Own w b cs 82 := by obtain ⟨wv, n, o, _⟩ := h; exact ⟨_, o⟩
/-- behind calls of a disk the document's stands as it did. -/
theorem RAt.dkept {w w' : World} {r lo b sb mb dlo : Nat} {d e : DK} (h : RAt w r lo d) (hD : DiskAt w b sb mb dlo e) (k : DKept b sb mb dlo w w') (hs : sb < lo) : RAt w' r lo d := by
  obtain ⟨sv, wv, o, hsr, hwr, h1, h2, r3⟩ := h
  obtain ⟨a1, a2, a3, a4, a5⟩ := k
  obtain ⟨wv2, n, ob, os, hw, hm, hn, g2, g3, g4, g5, g6, g7⟩ := hD
  have obs := ob
  unfold Own at obs
  have key : ∀ g cs t, lo ≤ g → t ≠ 82 → t ≠ 97 → w.heap[g]? = some (.cells cs t (0, 0)) → w'.heap[g]? = w.heap[g]? := by
    intro g cs t hg ht1 ht2 hc
    refine a5 g (lt_of_block hc) ?_ (by omega) ?_ (Or.inr ?_)
    · intro e; subst e
      rw [obs] at hc
      injection hc with hc
      injection hc with _ ht
      exact ht1 ht.symm
    · intro e; subst e
      obtain ⟨D, ⟨es, clock, hh, _⟩, _⟩ := hm
      rw [hh] at hc
      cases hc
    · intro cs2 f hc2
      rw [hc] at hc2
      injection hc2 with hc2
      injection hc2 with _ ht
      exact ht2 ht
  have or' : Own w' r #[sv, wv, .int .i64 d.fuse, .int .i64 d.ops, .bool d.down] 59 := (key r _ _ h2 (by decide) (by decide) o).trans o
  exact ⟨sv, wv, or', ownsRow_same hsr (fun g cs hg hc => key g cs _ hg (by decide) (by decide) hc), ownsRow_same hwr (fun g cs hg hc => key g cs _ hg (by decide) (by decide) hc), Nat.le_trans h1 a4, h2, r3⟩
theorem RAt.kept {S : List Nat} {w w' : World} {r lo : Nat} {d : DK} (h : RAt w r lo d) (k : Kept S w w') (hS : ∀ x ∈ S, x < lo) : RAt w' r lo d := by
  obtain ⟨sv, wv, o, hsr, hwr, h1, h2, r3⟩ := h
  exact ⟨sv, wv, k.own o (fun hx => by have := hS r hx; omega), ownsRow_kept hsr k hS, ownsRow_kept hwr k hS, Nat.le_trans h1 k.size, h2, r3⟩
/-- behind calls of the document's disk the disk stands as it did. -/
theorem DiskAt.rkept {w w' : World} {r lo b sb mb dlo : Nat} {d e : DK} (hD : DiskAt w b sb mb dlo e) (h : RAt w r lo d) (k : Kept [r] w w') : DiskAt w' b sb mb dlo e := by
  obtain ⟨sv, wv, o, hsr, hwr, h1, h2, r3⟩ := h
  obtain ⟨wv2, n, ob, os, hw, hm, hn, g2, g3, g4, g5, g6, g7⟩ := hD
  have o' : w.heap[r]? = some (.cells _ 59 (0, 0)) := o
  have ne : ∀ g cs t, t ≠ 59 → w.heap[g]? = some (.cells cs t (0, 0)) → g ∉ [r] := by
    intro g cs t ht hc hx
    have hx : g = r := by simpa using hx
    subst hx
    rw [o'] at hc
    injection hc with hc
    injection hc with _ e
    exact ht e.symm
  refine ⟨wv2, n, k.own ob (ne b _ _ (by decide) ob), k.own os (ne sb _ _ (by decide) os), ownsRow_keptO hw k o (by decide), hm.kept k ?_, hn, g2, g3, g4, g5, Nat.le_trans g6 k.size, g7⟩
  intro hx
  have hx : mb = r := by simpa using hx
  subst hx
  obtain ⟨D, ⟨es, clock, hh, _⟩, _⟩ := hm
  rw [hh] at o'
  cases o'
end Go.Proofs.Ytdnbddhjdokbfaa

/- Walks of the document's disk (layer 9): Read, cut, Image. -/
namespace Go.Proofs.Ytdnbddhjdokbfaa
open Go.RowKit Go.Maps
set_option linter.unusedVariables false
set_option linter.unusedSimpArgs false

theorem qRead_no (r lo : Nat) (d : DK) (i : Int) (w : World) (h : RAt w r lo d) (hno : atOf d i ≠ 0) : Calls Try.prog 76 #[.pointer (some ⟨r, 0, none⟩), .int .i64 i] w fun e w' => e = .returned (.tuple #[.string ⟨#[]⟩, .int .i64 (atOf d i)]) ∧ w = w' := by
  obtain ⟨p, c, p', c', c0, c1, c2, c3, c4, hs, hw, h1, h2, h3, h4, h5⟩ := h.five
  unfold atOf at *
  clear hs hw h
  generalize d.stand.length = n at *
  cases hd : d.down
  · rw [hd] at c4 hno
    simp only [Bool.false_eq_true, if_false] at hno ⊢
    clear hd
    rcases (by omega : i < 0 ∨ (0 ≤ i ∧ i < n) ∨ (0 ≤ i ∧ ¬ (i < n))) with g1 | ⟨g1, g2⟩ | ⟨g1, g2⟩
    · rw [if_pos (Or.inl g1)]
      clear hno
      go_enter Try.func76, Try.ntmps76
      go_wp2_with fail
      go_ret2
      exact ⟨rfl, rfl⟩
    · rw [if_neg (by omega)] at hno
      exact absurd rfl hno
    · rw [if_pos (Or.inr (by omega))]
      clear hno
      go_enter Try.func76, Try.ntmps76
      go_wp2_with fail
      go_ret2
      exact ⟨rfl, rfl⟩
  · rw [hd] at c4
    simp only [if_true]
    clear hd hno
    go_enter Try.func76, Try.ntmps76
    go_wp2_with fail
    go_ret2
    exact ⟨rfl, rfl⟩
/-- what is seen of a sector when the first k writes are looked at. -/
def seenTo (d : DK) (i k : Nat) : List UInt8 := (lastOf (d.waits.take k) i).getD (d.stand.getD i [])
theorem seenTo_succ (d : DK) (i k : Nat) (h : k < d.waits.length) : seenTo d i (k + 1) = if d.waits[k].1 = i then d.waits[k].2 else seenTo d i k := by
  unfold seenTo
  rw [List.take_succ_eq_append_getElem h, lastOf_snoc]
  split <;> rfl
theorem seenTo_all (d : DK) (i : Nat) : seenTo d i d.waits.length = seen d i := by unfold seenTo seen; rw [List.take_length]
set_option maxRecDepth 100000 in
set_option maxHeartbeats 1000000 in
theorem qRead (r lo : Nat) (d : DK) (i : Nat) (w : World) (h : RAt w r lo d) (hd : d.down = false) (hi : i < d.stand.length) : Calls Try.prog 76 #[.pointer (some ⟨r, 0, none⟩), .int .i64 i] w fun e w' => e = .returned (.tuple #[.string (bs (seen d i)), .int .i64 0]) ∧ w = w' := by
  obtain ⟨p, c, p', c', c0, c1, c2, c3, c4, hs, hw, h1, h2, h3, h4, h5⟩ := h.five
  rw [hd] at c4
  obtain ⟨gs, cs, es, hg1, hg2, _, _, hsc⟩ := ownsRow_at hs (by omega)
  have hcell := hsc i _ (svals_get d.stand i hi)
  injection es with es _ ecs
  subst es
  have e0 : bs d.stand[i] = bs (seenTo d i 0) := by
    unfold seenTo
    rw [List.take_zero, lastOf_nil, List.getD_eq_getElem?_getD, List.getElem?_eq_getElem hi]; rfl
  rw [e0] at hcell
  have i1 : (i : Int) < d.stand.length := by omega
  have hst : ∀ k, (hk : k < d.waits.length) → seenTo d i (k + 1) = if d.waits[k].1 = i then d.waits[k].2 else seenTo d i k := fun k hk => seenTo_succ d i k hk
  have HST := Lib.hid hst
  have HALL := Lib.hid (seenTo_all d i)
  have HW := Lib.hid hw
  clear hst hs hw h hsc e0 hi hd
  generalize d.stand.length = n at *
  go_enter Try.func76, Try.ntmps76
  go_wp2_with fail
  go_loop [6, 7] (fun s k => ∃ j : Nat, j ≤ d.waits.length ∧ k = .int .i64 j ∧ s = .string (bs (seenTo d i j))) (fun _ k => d.waits.length - (intOf k).toNat)
  case atStart => exact ⟨0, by omega, rfl, rfl⟩
  case round =>
    obtain ⟨j, hj, rfl, rfl⟩ := hrel
    by_cases hlt : j < d.waits.length
    · obtain ⟨ai, asj, hst2, hq1, hq2⟩ : ∃ (ai : Nat) (asj : List UInt8), seenTo d i (j + 1) = (if ai = i then asj else seenTo d i j) ∧ (wcells d.waits)[j * 2]? = some (.int .i64 (ai : Int)) ∧ (wcells d.waits)[j * 2 + 1]? = some (.string (bs asj)) :=
        ⟨_, _, HST.out j hlt, (wcells_get d.waits j hlt).1, (wcells_get d.waits j hlt).2⟩
      obtain ⟨gw, cw, ew, _, _, _, _, hwc⟩ := ownsRow_at HW.out (by omega)
      have w1 := hwc _ _ hq1
      have w2 := hwc _ _ hq2
      injection ew with ew _ ecw
      subst ew
      have i2 : (j : Int) < d.waits.length := by omega
      have HLT := Lib.hid hlt
      clear hq1 hq2 hwc
      by_cases he : ai = i
      · subst he
        rw [if_pos rfl] at hst2
        have HS := Lib.hid hst2
        clear hst2
        generalize seenTo d ai j = S0 at *
        go_wp2_with fail
        go_round
        case rel => exact ⟨j + 1, HLT.out, by go_num, by rw [HS.out]⟩
        case measure => (have hh := HLT.out; simp [intOf]; omega)
      · have hne : ((ai : Int) == (i : Int)) = false := by rw [beq_eq_false_iff_ne]; omega
        rw [if_neg he] at hst2
        have HS := Lib.hid hst2
        clear he hst2
        generalize seenTo d i j = S0 at *
        go_wp2_with fail
        go_round
        case rel => exact ⟨j + 1, HLT.out, by go_num, by rw [HS.out]⟩
        case measure => (have hh := HLT.out; simp [intOf]; omega)
    · obtain rfl : j = d.waits.length := by omega
      rw [HALL.out]
      go_wp2_with fail
      go_ret2
      exact ⟨rfl, rfl⟩
theorem wrap64_inc (a : Nat) (h : a ≤ 100000) : (IntKind.i64.wrap ((a : Int) + 1)) = (a : Int) + 1 := IntWalk.i64_in _ (by omega)
set_option maxRecDepth 100000 in
theorem qCut (r lo : Nat) (d : DK) (w : World) (h : RAt w r lo d) (ho : d.ops < 100000) : Calls Try.prog 78 #[.pointer (some ⟨r, 0, none⟩)] w fun e w' => e = .returned (.bool (decide (d.fuse = 0))) ∧ RAt w' r lo (opD d) ∧ Kept [r] w w' := by
  have hf : (Lit.int .i64 d.fuse).wf = true := by obtain ⟨_, _, _, _, _, _, _, _, _, h6, _⟩ := h; exact h6
  have hfb : -9223372036854775808 ≤ d.fuse ∧ d.fuse ≤ 9223372036854775807 := by
    simp only [Lit.wf, Bool.and_eq_true, decide_eq_true_eq] at hf
    exact ⟨by have := hf.1; exact this, by have := hf.2; exact this⟩
  have hfin : ∀ (w' : World), Kept [r] w w' → (∀ v0 v1, Own w r #[v0, v1, .int .i64 d.fuse, .int .i64 d.ops, .bool d.down] 59 → Own w' r #[v0, v1, .int .i64 (opD d).fuse, .int .i64 (opD d).ops, .bool (opD d).down] 59) → RAt w' r lo (opD d) := by
    intro w' k hw'
    obtain ⟨sv, wv, o, hs, hw, h1, h2, h3, h4, h5, h6, h7⟩ := h
    refine ⟨sv, wv, hw' _ _ o, ownsRow_keptO hs k o (by decide), ownsRow_keptO hw k o (by decide), Nat.le_trans h1 k.size, h2, h3, h4, ?_, ?_, h7⟩
    · show (Lit.int .i64 (if 0 < d.fuse then d.fuse - 1 else d.fuse)).wf = true
      split
      · exact WalkArith.wf_i64 (by omega)
      · exact h5
    · show d.ops + 1 ≤ 100000; omega
  obtain ⟨sv, wv, o⟩ := h.own
  obtain ⟨c0, c1, c2, c3, c4⟩ := o.c5
  have z := o.z5
  have HF := Lib.hid hfin
  obtain ⟨st, wa, fu, op, dn⟩ := d
  simp only at *
  obtain ⟨q, hq⟩ : ∃ q, q = op + 1 := ⟨_, rfl⟩
  have hop : ((op : Int) + 1) = (q : Int) := by omega
  have HQ := Lib.hid hq
  have hop2 : (op : Int) ≤ 100000 := by omega
  clear hq ho h hf hfin
  rcases (by omega : fu = 0 ∨ fu < 0 ∨ 0 < fu) with rfl | hp | hp
  · go_enter Try.func78, Try.ntmps78
    go_wp2_with fail
    go_ret
    have kk := ((Kept.refl [r] w).setCell (p := ⟨r, 3, none⟩) (Or.inl (by simp)) (.int .i64 q)).setCell (p := ⟨r, 4, none⟩) (Or.inl (by simp)) (.bool true)
    refine ⟨rfl, HF.out _ kk (fun v0 v1 o => ?_), kk⟩
    show Own _ r #[v0, v1, .int .i64 0, .int .i64 ((op + 1 : Nat) : Int), .bool true] _
    rw [← HQ.out]
    exact (o.set 3 _).set 4 _
  · have hne : (fu == 0) = false := by rw [beq_eq_false_iff_ne]; omega
    have hdc : decide (fu = 0) = false := decide_eq_false (by omega)
    rw [hdc]
    go_enter Try.func78, Try.ntmps78
    go_wp2_with fail
    go_ret
    have kk := (Kept.refl [r] w).setCell (p := ⟨r, 3, none⟩) (Or.inl (by simp)) (.int .i64 q)
    have ef : (opD ⟨st, wa, fu, op, dn⟩).fuse = fu := by show (if 0 < fu then fu - 1 else fu) = _; rw [if_neg (by omega)]
    have ed : (opD ⟨st, wa, fu, op, dn⟩).down = dn := by show (if fu = 0 then true else dn) = _; rw [if_neg (by omega)]
    refine ⟨rfl, HF.out _ kk (fun v0 v1 o => ?_), kk⟩
    rw [ef, ed]
    show Own _ r #[v0, v1, .int .i64 fu, .int .i64 ((op + 1 : Nat) : Int), .bool dn] _
    rw [← HQ.out]
    exact o.set 3 _
  · have hne : (fu == 0) = false := by rw [beq_eq_false_iff_ne]; omega
    have hdc : decide (fu = 0) = false := decide_eq_false (by omega)
    rw [hdc]
    go_enter Try.func78, Try.ntmps78
    go_wp2_with fail
    go_ret
    have kk := ((Kept.refl [r] w).setCell (p := ⟨r, 3, none⟩) (Or.inl (by simp)) (.int .i64 q)).setCell (p := ⟨r, 2, none⟩) (Or.inl (by simp)) (.int .i64 (fu - 1))
    have ef : (opD ⟨st, wa, fu, op, dn⟩).fuse = fu - 1 := by show (if 0 < fu then fu - 1 else fu) = _; rw [if_pos hp]
    have ed : (opD ⟨st, wa, fu, op, dn⟩).down = dn := by show (if fu = 0 then true else dn) = _; rw [if_neg (by omega)]
    refine ⟨rfl, HF.out _ kk (fun v0 v1 o => ?_), kk⟩
    rw [ef, ed]
    show Own _ r #[v0, v1, .int .i64 (fu - 1), .int .i64 ((op + 1 : Nat) : Int), .bool dn] _
    rw [← HQ.out]
    exact (o.set 3 _).set 2 _
set_option maxRecDepth 100000 in
theorem qImage (r lo : Nat) (d : DK) (w : World) (h : RAt w r lo d) (hm : ∀ s ∈ d.stand, s.length ≤ 128) : Calls Try.prog 26 #[.pointer (some ⟨r, 0, none⟩)] w fun e w' => e = .returned (.string (bs d.stand.flatten)) ∧ w = w' := by
  obtain ⟨p, c, p', c', c0, c1, c2, c3, c4, hs, hw, h1, h2, h3, h4, h5⟩ := h.five
  obtain ⟨gs, cs, es, hg1, hg2, _, _, hsc⟩ := ownsRow_at hs (by omega)
  injection es with es _ ecs
  subst es
  have hcell : ∀ k, (hk : k < d.stand.length) → w.cell? ⟨gs, k, none⟩ = some (.string (bs d.stand[k])) := fun k hk => hsc k _ (svals_get d.stand k hk)
  have hcat : ∀ k, (hk : k < d.stand.length) → bs (catTo d.stand k) ++ bs d.stand[k] = bs (catTo d.stand (k + 1)) := fun k hk => by
    rw [bs_append]; unfold catTo; rw [List.take_succ_eq_append_getElem hk, List.flatten_append]; simp
  have hfin : catTo d.stand d.stand.length = d.stand.flatten := by unfold catTo; rw [List.take_length]
  have hlen : ∀ k, (catTo d.stand k).length ≤ 1048576 := fun k => by
    unfold catTo
    have h6 : ∀ l : List (List UInt8), (∀ s ∈ l, s.length ≤ 128) → l.flatten.length ≤ 128 * l.length := by
      intro l hl
      induction l with
      | nil => simp
      | cons a l ih =>
        rw [List.flatten_cons, List.length_append, List.length_cons]
        have := ih (fun s hs => hl s (List.mem_cons_of_mem _ hs))
        have := hl a (List.mem_cons_self)
        omega
    have := h6 (d.stand.take k) (fun s hs => hm s (List.mem_of_mem_take hs))
    have := List.length_take_le' k d.stand
    omega
  have HC := Lib.hid hcell
  have HCAT := Lib.hid hcat
  have HFIN := Lib.hid hfin
  have HLEN := Lib.hid hlen
  have HN : Hid (d.stand.length ≤ 8192) := h2
  clear hcell hcat hfin hlen hs hw h hsc hm
  go_enter Try.func26, Try.ntmps26
  go_wp2_with fail
  go_loop [3, 4] (fun s k => ∃ j : Nat, j ≤ d.stand.length ∧ k = .int .i64 j ∧ s = .string (bs (catTo d.stand j))) (fun _ k => d.stand.length - (intOf k).toNat)
  case atStart => exact ⟨0, by omega, rfl, rfl⟩
  case round =>
    obtain ⟨j, hj, rfl, rfl⟩ := hrel
    by_cases hlt : j < d.stand.length
    · have cj := HC.out j hlt
      have hcj := HCAT.out j hlt
      have hl2 := HLEN.out (j + 1)
      have hz0 : (bs (catTo d.stand j)).size ≤ 1048576 := by rw [bs_size]; exact HLEN.out j
      have hz1 : (bs (catTo d.stand j)).size + (bs d.stand[j]).size ≤ 1048576 := by
        have := congrArg ByteArray.size hcj
        rw [ByteArray.size_append, bs_size (catTo d.stand (j + 1))] at this
        omega
      have hz2 : (bs d.stand[j]).size ≤ 1048576 := by omega
      have i2 : (j : Int) < d.stand.length := by omega
      have HLT := Lib.hid hlt
      have HCJ := Lib.hid hcj
      clear hl2 hcj
      generalize bs d.stand[j] = SJ at *
      generalize bs (catTo d.stand j) = S0 at *
      go_wp2_with fail
      go_round
      case rel => exact ⟨j + 1, HLT.out, by go_num, by rw [← HCJ.out]⟩
      case measure => (have hh := HLT.out; simp [intOf]; omega)
    · obtain rfl : j = d.stand.length := by omega
      rw [HFIN.out]
      go_wp2_with fail
      go_ret
      exact ⟨rfl, rfl⟩
end Go.Proofs.Ytdnbddhjdokbfaa
