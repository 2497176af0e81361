/- Layer 13 (journal): lists of records, and of lists of records, held against each other; which are small. -/
import Derived.Test.YtegbekeopgponaaG12
import Derived.Test.YtegbekeopgponaaG29
namespace Go.Proofs.Ytegbekeopgponaa
open Go.RowKit
set_option linter.unusedVariables false
set_option linter.unusedSimpArgs false

theorem JRec.same_self (a : JRec) : a.same a = true := by unfold JRec.same; simp
theorem RecsIn.shape {w : World} {v : Value} {l : List JRec} {lo hi : Nat} (h : RecsIn w v l lo hi) : ∃ p c, v = .slice p l.length c := RowsOf.shape h
/-- the slice v of slices of records reads as ll. -/
def TxsIn (w : World) (v : Value) (ll : List (List JRec)) (lo hi : Nat) : Prop := RowsOf 1 (fun w cs l => ∃ kv lo' hi', cs = [kv] ∧ RecsIn w kv l lo' hi') w v ll lo hi
theorem TxsIn.kept0 {w w' : World} {v : Value} {ll : List (List JRec)} {lo hi : Nat} (h : TxsIn w v ll lo hi) (k : Kept [] w w') : TxsIn w' v ll lo hi :=
  RowsOf.kept h k (fun x hx => by cases hx) (fun cs a ⟨kv, lo', hi', e1, e2⟩ => ⟨kv, lo', hi', e1, e2.kept0 k⟩)
theorem TxsIn.at_ {w : World} {p : Option Addr} {n c : Nat} {ll : List (List JRec)} {lo hi : Nat} (h : TxsIn w (.slice p n c) ll lo hi) (i : Nat) (hi' : i < ll.length) :
    ∃ b off kv lo' hi'', p = some ⟨b, off, none⟩ ∧ w.cell? ⟨b, off + i, none⟩ = some kv ∧ RecsIn w kv ll[i] lo' hi'' ∧ lo ≤ b ∧ b < hi ∧ hi ≤ w.heap.size := by
  obtain ⟨b, off, cs, e1, e2, ⟨kv, lo', hi2, rfl, e4⟩, e6, e7⟩ := RowsOf.at_ h i hi'
  refine ⟨b, off, kv, lo', hi2, e1, ?_, e4, e7⟩
  have := e6 0 _ rfl
  simpa using this
theorem TxsNew.in_ {w0 w : World} {v : Value} {ll : List (List JRec)} (h : TxsNew w0 w v ll) : TxsIn w v ll w0.heap.size w.heap.size := by
  obtain ⟨vs, rfl, h2, h3⟩ := h
  by_cases h0 : vs = []
  · subst h0
    obtain ⟨p, c, rfl⟩ := own_shape h2
    exact Or.inl ⟨rfl, p, c, rfl⟩
  · have hp : 0 < vs.length := List.length_pos_iff.2 h0
    obtain ⟨g, c, rfl, g1, g2, g3, g4, g5⟩ := ownsRow_at h2 (by simpa using hp)
    refine Or.inr ⟨g, 0, c, rfl, fun i hi => ?_, g1, g2, Nat.le_refl _, fun e => h0 (List.map_eq_nil_iff.1 e), g3, g4⟩
    have hi' : i < vs.length := by simpa using hi
    refine ⟨[vs[i].2], rfl, ⟨vs[i].2, _, _, rfl, by rw [List.getElem_map]; exact (h3 _ (List.getElem_mem hi')).in_⟩, fun j u hj => ?_⟩
    have hj0 : j = 0 := by
      have := (List.getElem?_eq_some_iff.1 hj).1
      simpa using this
    subst hj0
    rw [Nat.zero_add, Nat.mul_one]
    refine g5 _ _ ?_
    have hu : u = vs[i].2 := by simpa using hj.symm
    rw [hu]
    simp [hi']
set_option maxRecDepth 100000 in
set_option maxHeartbeats 2000000 in
theorem qsameall (va vb : Value) (l : List JRec) (lo hi lo' hi' : Nat) (w : World) (h : RecsIn w va l lo hi) (h' : RecsIn w vb l lo' hi') (hrl : ∀ r ∈ l, r.runs.length ≤ 1000000) :
    Calls Try.prog 22 #[va, vb] w fun e w' => e = .returned (.bool true) ∧ Kept [] w w' := by
  have hlm := RowsOf.len h
  obtain ⟨p, c, rfl⟩ := h.shape
  obtain ⟨p', c', rfl⟩ := h'.shape
  unfold maxLen at hlm
  have HLM := Lib.hid hlm
  have H := Lib.hid h
  have H' := Lib.hid h'
  have HRL := Lib.hid hrl
  clear h h' hlm hrl
  go_enter Try.func22, Try.ntmps22
  go_wp2_with fail
  go_loopw [5] (fun i wr => ∃ k : Nat, k ≤ l.length ∧ i = .int .i64 k ∧ Kept [] w wr) (fun i _ => l.length - (intOf i).toNat)
  case atStart => exact ⟨0, by omega, rfl, Kept.refl _ _⟩
  case round =>
    obtain ⟨k, hk, rfl, hK⟩ := hrel
    by_cases hlt : k < l.length
    · obtain ⟨b, off, kv, rfl, c0, c1, c2, c3, c4, hr, hfit, _, hbh, hhw⟩ := (H.out.kept0 hK).at_ k hlt
      obtain ⟨b', off', kv', rfl, d0, d1, d2, d3, d4, hr', hfit', _, hbh', hhw'⟩ := (H'.out.kept0 hK).at_ k hlt
      have hrl := HRL.out _ (List.getElem_mem hlt)
      have hq := fun W (kk : Kept [] wr W) => qsame l[k] l[k] kv kv' lo hi lo' hi' W (hr.kept0 kk) (hr'.kept0 kk) hrl hrl
      have hsf : l[k].same l[k] = true := JRec.same_self _
      rw [hsf] at hq
      unfold JRec.cells at hq
      have HQ := Lib.hid hq
      have HLT := Lib.hid hlt
      have i1 : (k : Int) < l.length := by omega
      have i2 : (l.length : Int) ≤ 9223372036854775807 := by have := HLM.out; omega
      obtain ⟨pk, ck, rfl⟩ := hr.shape
      obtain ⟨pk', ck', rfl⟩ := hr'.shape
      clear hq hr hr' hrl hsf hfit hfit'
      generalize l[k].kind = rk at *
      generalize l[k].id = ri at *
      generalize l[k].name = rn at *
      generalize l[k].size = rs at *
      generalize l[k].runs.length = rr at *
      clear hlt
      go_wp2_with fail
      go_region_held3 (fun W => W.cell? ⟨b, off + k * 5, none⟩ = some (.int .i64 rk) ∧ W.cell? ⟨b, off + k * 5 + 1, none⟩ = some (.int .u32 ri) ∧ W.cell? ⟨b, off + k * 5 + 2, none⟩ = some (.string (bs rn)) ∧ W.cell? ⟨b, off + k * 5 + 3, none⟩ = some (.int .i64 rs) ∧ W.cell? ⟨b, off + k * 5 + 4, none⟩ = some (.slice pk rr ck) ∧ W.cell? ⟨b', off' + k * 5, none⟩ = some (.int .i64 rk) ∧ W.cell? ⟨b', off' + k * 5 + 1, none⟩ = some (.int .u32 ri) ∧ W.cell? ⟨b', off' + k * 5 + 2, none⟩ = some (.string (bs rn)) ∧ W.cell? ⟨b', off' + k * 5 + 3, none⟩ = some (.int .i64 rs) ∧ W.cell? ⟨b', off' + k * 5 + 4, none⟩ = some (.slice pk' rr ck')) (go_keep)
        ((go_at_call 20; ((with_reducible refine (HQ.out _ ?_).mono ?_)); (first | exact Kept.refl _ _ | exact (Kept.refl _ _).drew); rintro e w1 ⟨rfl, kk1⟩; have q0 := (kk1.cell (a := ⟨b, off + k * 5, none⟩) (by show b < wr.heap.size; omega) (by simp)).trans c0; have q1 := (kk1.cell (a := ⟨b, off + k * 5 + 1, none⟩) (by show b < wr.heap.size; omega) (by simp)).trans c1; have q2 := (kk1.cell (a := ⟨b, off + k * 5 + 2, none⟩) (by show b < wr.heap.size; omega) (by simp)).trans c2; have q3 := (kk1.cell (a := ⟨b, off + k * 5 + 3, none⟩) (by show b < wr.heap.size; omega) (by simp)).trans c3; have q4 := (kk1.cell (a := ⟨b, off + k * 5 + 4, none⟩) (by show b < wr.heap.size; omega) (by simp)).trans c4; have r0 := (kk1.cell (a := ⟨b', off' + k * 5, none⟩) (by show b' < wr.heap.size; omega) (by simp)).trans d0; have r1 := (kk1.cell (a := ⟨b', off' + k * 5 + 1, none⟩) (by show b' < wr.heap.size; omega) (by simp)).trans d1; have r2 := (kk1.cell (a := ⟨b', off' + k * 5 + 2, none⟩) (by show b' < wr.heap.size; omega) (by simp)).trans d2; have r3 := (kk1.cell (a := ⟨b', off' + k * 5 + 3, none⟩) (by show b' < wr.heap.size; omega) (by simp)).trans d3; have r4 := (kk1.cell (a := ⟨b', off' + k * 5 + 4, none⟩) (by show b' < wr.heap.size; omega) (by simp)).trans d4))
      all_goals go_wp2_with fail
      all_goals go_roundw
      all_goals first
        | exact ⟨k + 1, HLT.out, by go_num, hK.trans (by first | exact kk1 | exact ((Kept.refl _ _).drew).trans kk1)⟩
        | (have hh := HLT.out; simp [intOf]; omega)
    · have i1 : ¬ ((k : Int) < l.length) := by omega
      clear hlt
      go_wp2_with fail
      go_ret
      exact ⟨rfl, hK⟩
set_option maxRecDepth 100000 in
set_option maxHeartbeats 2000000 in
theorem jall (va vb : Value) (l : List (List JRec)) (lo hi lo' hi' : Nat) (w : World) (h : TxsIn w va l lo hi) (h' : TxsIn w vb l lo' hi') (hrl : ∀ x ∈ l, ∀ r ∈ x, r.runs.length ≤ 1000000) :
    Calls Try.prog 12 #[va, vb] w fun e w' => e = .returned (.bool true) ∧ Kept [] w w' := by
  have hlm := RowsOf.len h
  obtain ⟨p, c, rfl⟩ := RowsOf.shape h
  obtain ⟨p', c', rfl⟩ := RowsOf.shape h'
  unfold maxLen at hlm
  have HLM := Lib.hid hlm
  have H := Lib.hid h
  have H' := Lib.hid h'
  have HRL := Lib.hid hrl
  clear h h' hlm hrl
  go_enter Try.func12, Try.ntmps12
  go_wp2_with fail
  go_loopw [5] (fun i wr => ∃ k : Nat, k ≤ l.length ∧ i = .int .i64 k ∧ Kept [] w wr) (fun i _ => l.length - (intOf i).toNat)
  case atStart => exact ⟨0, by omega, rfl, Kept.refl _ _⟩
  case round =>
    obtain ⟨k, hk, rfl, hK⟩ := hrel
    by_cases hlt : k < l.length
    · obtain ⟨b, off, kv, _, _, rfl, c0, hr, _, hbh, hhw⟩ := (H.out.kept0 hK).at_ k hlt
      obtain ⟨b', off', kv', _, _, rfl, d0, hr', _, hbh', hhw'⟩ := (H'.out.kept0 hK).at_ k hlt
      have hrl := HRL.out _ (List.getElem_mem hlt)
      have hq := fun W (kk : Kept [] wr W) => qsameall kv kv' l[k] _ _ _ _ W (hr.kept0 kk) (hr'.kept0 kk) hrl
      have HQ := Lib.hid hq
      have HLT := Lib.hid hlt
      have i1 : (k : Int) < l.length := by omega
      have i2 : (l.length : Int) ≤ 9223372036854775807 := by have := HLM.out; omega
      obtain ⟨pk, ck, rfl⟩ := hr.shape
      obtain ⟨pk', ck', rfl⟩ := hr'.shape
      clear hq hr hr' hrl
      generalize l[k].length = rr at *
      clear hlt
      go_wp2_with fail
      go_region_held3 (fun W => W.cell? ⟨b, off + k, none⟩ = some (.slice pk rr ck) ∧ W.cell? ⟨b', off' + k, none⟩ = some (.slice pk' rr ck')) (go_keep)
        ((go_at_call 22; ((with_reducible refine (HQ.out _ ?_).mono ?_)); (first | exact Kept.refl _ _ | exact (Kept.refl _ _).drew); rintro e w1 ⟨rfl, kk1⟩; have q0 := (kk1.cell (a := ⟨b, off + k, none⟩) (by show b < wr.heap.size; omega) (by simp)).trans c0; have r0 := (kk1.cell (a := ⟨b', off' + k, none⟩) (by show b' < wr.heap.size; omega) (by simp)).trans d0))
      all_goals go_wp2_with fail
      all_goals go_roundw
      all_goals first
        | exact ⟨k + 1, HLT.out, by go_num, hK.trans (by first | exact kk1 | exact ((Kept.refl _ _).drew).trans kk1)⟩
        | (have hh := HLT.out; simp [intOf]; omega)
    · have i1 : ¬ ((k : Int) < l.length) := by omega
      clear hlt
      go_wp2_with fail
      go_ret
      exact ⟨rfl, hK⟩
/-- records that are not far too much. -/
def FewR (l : List JRec) : Prop := l.length ≤ 30 ∧ ∀ r ∈ l, r.runs.length ≤ 30 ∧ r.name.length ≤ 200
def SmallSays (l : List JRec) (w : World) (e : Ending) (w' : World) : Prop := w = w' ∧ ((e = .returned (.bool true) ∧ FewR l) ∨ e = .returned (.bool false))
set_option maxRecDepth 100000 in
set_option maxHeartbeats 2000000 in
theorem jsmall (va : Value) (l : List JRec) (lo hi : Nat) (w : World) (h : RecsIn w va l lo hi) :
    Calls Try.prog 13 #[va] w (SmallSays l w) := by
  have hlm := RowsOf.len h
  obtain ⟨p, c, rfl⟩ := h.shape
  unfold maxLen at hlm
  have HLM := Lib.hid hlm
  have H := Lib.hid h
  clear h hlm
  go_enter Try.func13, Try.ntmps13
  go_wp2_with fail
  go_loop [3] (fun i => ∃ k : Nat, k ≤ l.length ∧ k ≤ 30 ∧ i = .int .i64 k ∧ ∀ j (hj : j < l.length), j < k → l[j].runs.length ≤ 30 ∧ l[j].name.length ≤ 200) (fun i => l.length - (intOf i).toNat)
  case atStart => exact ⟨0, by omega, by omega, rfl, fun j _ hj => absurd hj (by omega)⟩
  case round =>
    obtain ⟨k, hk, hk30, rfl, hok⟩ := hrel
    have HOK := Lib.hid hok
    clear hok
    by_cases hlt : k < l.length
    · by_cases h30 : k < 30
      · obtain ⟨b, off, kv, rfl, c0, c1, c2, c3, c4, hr, hfit, _, hbh, hhw⟩ := H.out.at_ k hlt
        have HLT := Lib.hid hlt
        have H30 := Lib.hid h30
        have i1 : (k : Int) < l.length := by omega
        have i3 : (k : Int) < 30 := by omega
        have i2 : (l.length : Int) ≤ 9223372036854775807 := by have := HLM.out; omega
        obtain ⟨pk, ck, rfl⟩ := hr.shape
        have hz : ((bs l[k].name).size : Int) = l[k].name.length := by rw [bs_size]
        have hnx : l[k].runs.length ≤ 30 → l[k].name.length ≤ 200 → ∀ j (hj : j < l.length), j < k + 1 → l[j].runs.length ≤ 30 ∧ l[j].name.length ≤ 200 := fun h1 h2 j hj hjk => by
          by_cases e : j = k
          · subst e; exact ⟨h1, h2⟩
          · exact HOK.out j hj (by omega)
        have HNX := Lib.hid hnx
        clear hr h30 hnx hfit
        generalize l[k].runs.length = rr at *
        obtain ⟨nz, hnz⟩ : ∃ nz : Int, ((bs l[k].name).size : Int) = nz := ⟨_, rfl⟩
        rw [hnz] at hz
        generalize l[k].name.length = nl at *
        generalize bs l[k].name = nb at *
        generalize l[k].kind = rk at *
        generalize l[k].id = ri at *
        generalize l[k].size = rs at *
        clear hlt
        have HZ := Lib.hid hz
        clear hz
        rcases (by omega : 30 < rr ∨ (rr ≤ 30 ∧ 200 < nz) ∨ (rr ≤ 30 ∧ nz ≤ 200)) with h1 | ⟨h1, h2⟩ | ⟨h1, h2⟩
        · have h1' : (30 : Int) < rr := by omega
          clear h1
          go_wp2_with fail
          go_ret
          exact ⟨rfl, Or.inr rfl⟩
        · have h1' : (rr : Int) ≤ 30 := by omega
          clear h1
          go_wp2_with fail
          go_ret
          exact ⟨rfl, Or.inr rfl⟩
        · have h1' : (rr : Int) ≤ 30 := by omega
          have hn2 := HNX.out h1 (by have := HZ.out; omega)
          have HN2 := Lib.hid hn2
          clear h1 hn2
          go_wp2_with fail
          go_round
          case rel => exact ⟨k + 1, HLT.out, H30.out, by go_num, HN2.out⟩
          case measure => (have hh := HLT.out; simp [intOf]; omega)
      · have i1 : (k : Int) < l.length := by omega
        have i3 : ¬ ((k : Int) < 30) := by omega
        have i4 : ¬ ((l.length : Int) ≤ 30) := by omega
        clear hlt h30
        go_wp2_with fail
        go_ret
        exact ⟨rfl, Or.inr rfl⟩
    · have i1 : ¬ ((k : Int) < l.length) := by omega
      have i4 : (l.length : Int) ≤ 30 := by omega
      have hfew : FewR l := ⟨by omega, fun r hr => by
        obtain ⟨j, hj, rfl⟩ := List.mem_iff_getElem.1 hr
        exact HOK.out j hj (by omega)⟩
      have HF := Lib.hid hfew
      clear hlt hfew
      go_wp2_with fail
      go_ret
      exact ⟨rfl, Or.inl ⟨rfl, HF.out⟩⟩
end Go.Proofs.Ytegbekeopgponaa

/- Walks of the document's disk (layer 9): Read, cut, Image. -/
namespace Go.Proofs.Ytegbekeopgponaa
open Go.RowKit Go.Maps
set_option linter.unusedVariables false
set_option linter.unusedSimpArgs false

theorem qRead_no (r lo : Nat) (d : DK) (i : Int) (w : World) (h : RAt w r lo d) (hno : atOf d i ≠ 0) : Calls Try.prog 76 #[.pointer (some ⟨r, 0, none⟩), .int .i64 i] w fun e w' => e = .returned (.tuple #[.string ⟨#[]⟩, .int .i64 (atOf d i)]) ∧ w = w' := by
  obtain ⟨p, c, p', c', c0, c1, c2, c3, c4, hs, hw, h1, h2, h3, h4, h5⟩ := h.five
  unfold atOf at *
  clear hs hw h
  generalize d.stand.length = n at *
  cases hd : d.down
  · rw [hd] at c4 hno
    simp only [Bool.false_eq_true, if_false] at hno ⊢
    clear hd
    rcases (by omega : i < 0 ∨ (0 ≤ i ∧ i < n) ∨ (0 ≤ i ∧ ¬ (i < n))) with g1 | ⟨g1, g2⟩ | ⟨g1, g2⟩
    · rw [if_pos (Or.inl g1)]
      clear hno
      go_enter Try.func76, Try.ntmps76
      go_wp2_with fail
      go_ret2
      exact ⟨rfl, rfl⟩
    · rw [if_neg (by omega)] at hno
      exact absurd rfl hno
    · rw [if_pos (Or.inr (by omega))]
      clear hno
      go_enter Try.func76, Try.ntmps76
      go_wp2_with fail
      go_ret2
      exact ⟨rfl, rfl⟩
  · rw [hd] at c4
    simp only [if_true]
    clear hd hno
    go_enter Try.func76, Try.ntmps76
    go_wp2_with fail
    go_ret2
    exact ⟨rfl, rfl⟩
/-- what is seen of a sector when the first k writes are looked at. -/
def seenTo (d : DK) (i k : Nat) : List UInt8 := (lastOf (d.waits.take k) i).getD (d.stand.getD i [])
theorem seenTo_succ (d : DK) (i k : Nat) (h : k < d.waits.length) : seenTo d i (k + 1) = if d.waits[k].1 = i then d.waits[k].2 else seenTo d i k := by
  unfold seenTo
  rw [List.take_succ_eq_append_getElem h, lastOf_snoc]
  split <;> rfl
theorem seenTo_all (d : DK) (i : Nat) : seenTo d i d.waits.length = seen d i := by unfold seenTo seen; rw [List.take_length]
set_option maxRecDepth 100000 in
set_option maxHeartbeats 1000000 in
theorem qRead (r lo : Nat) (d : DK) (i : Nat) (w : World) (h : RAt w r lo d) (hd : d.down = false) (hi : i < d.stand.length) : Calls Try.prog 76 #[.pointer (some ⟨r, 0, none⟩), .int .i64 i] w fun e w' => e = .returned (.tuple #[.string (bs (seen d i)), .int .i64 0]) ∧ w = w' := by
  obtain ⟨p, c, p', c', c0, c1, c2, c3, c4, hs, hw, h1, h2, h3, h4, h5⟩ := h.five
  rw [hd] at c4
  obtain ⟨gs, cs, es, hg1, hg2, _, _, hsc⟩ := ownsRow_at hs (by omega)
  have hcell := hsc i _ (svals_get d.stand i hi)
  injection es with es _ ecs
  subst es
  have e0 : bs d.stand[i] = bs (seenTo d i 0) := by
    unfold seenTo
    rw [List.take_zero, lastOf_nil, List.getD_eq_getElem?_getD, List.getElem?_eq_getElem hi]; rfl
  rw [e0] at hcell
  have i1 : (i : Int) < d.stand.length := by omega
  have hst : ∀ k, (hk : k < d.waits.length) → seenTo d i (k + 1) = if d.waits[k].1 = i then d.waits[k].2 else seenTo d i k := fun k hk => seenTo_succ d i k hk
  have HST := Lib.hid hst
  have HALL := Lib.hid (seenTo_all d i)
  have HW := Lib.hid hw
  clear hst hs hw h hsc e0 hi hd
  generalize d.stand.length = n at *
  go_enter Try.func76, Try.ntmps76
  go_wp2_with fail
  go_loop [6, 7] (fun s k => ∃ j : Nat, j ≤ d.waits.length ∧ k = .int .i64 j ∧ s = .string (bs (seenTo d i j))) (fun _ k => d.waits.length - (intOf k).toNat)
  case atStart => exact ⟨0, by omega, rfl, rfl⟩
  case round =>
    obtain ⟨j, hj, rfl, rfl⟩ := hrel
    by_cases hlt : j < d.waits.length
    · obtain ⟨ai, asj, hst2, hq1, hq2⟩ : ∃ (ai : Nat) (asj : List UInt8), seenTo d i (j + 1) = (if ai = i then asj else seenTo d i j) ∧ (wcells d.waits)[j * 2]? = some (.int .i64 (ai : Int)) ∧ (wcells d.waits)[j * 2 + 1]? = some (.string (bs asj)) :=
        ⟨_, _, HST.out j hlt, (wcells_get d.waits j hlt).1, (wcells_get d.waits j hlt).2⟩
      obtain ⟨gw, cw, ew, _, _, _, _, hwc⟩ := ownsRow_at HW.out (by omega)
      have w1 := hwc _ _ hq1
      have w2 := hwc _ _ hq2
      injection ew with ew _ ecw
      subst ew
      have i2 : (j : Int) < d.waits.length := by omega
      have HLT := Lib.hid hlt
      clear hq1 hq2 hwc
      by_cases he : ai = i
      · subst he
        rw [if_pos rfl] at hst2
        have HS := Lib.hid hst2
        clear hst2
        generalize seenTo d ai j = S0 at *
        go_wp2_with fail
        go_round
        case rel => exact ⟨j + 1, HLT.out, by go_num, by rw [HS.out]⟩
        case measure => (have hh := HLT.out; simp [intOf]; omega)
      · have hne : ((ai : Int) == (i : Int)) = false := by rw [beq_eq_false_iff_ne]; omega
        rw [if_neg he] at hst2
        have HS := Lib.hid hst2
        clear he hst2
        generalize seenTo d i j = S0 at *
        go_wp2_with fail
        go_round
        case rel => exact ⟨j + 1, HLT.out, by go_num, by rw [HS.out]⟩
        case measure => (have hh := HLT.out; simp [intOf]; omega)
    · obtain rfl : j = d.waits.length := by omega
      rw [HALL.out]
      go_wp2_with fail
      go_ret2
      exact ⟨rfl, rfl⟩
theorem wrap64_inc (a : Nat) (h : a ≤ 100000) : (IntKind.i64.wrap ((a : Int) + 1)) = (a : Int) + 1 := IntWalk.i64_in _ (by omega)
set_option maxRecDepth 100000 in
theorem qCut (r lo : Nat) (d : DK) (w : World) (h : RAt w r lo d) (ho : d.ops < 100000) : Calls Try.prog 100 #[.pointer (some ⟨r, 0, none⟩)] w fun e w' => e = .returned (.bool (decide (d.fuse = 0))) ∧ RAt w' r lo (opD d) ∧ Kept [r] w w' := by
  have hf : (Lit.int .i64 d.fuse).wf = true := by obtain ⟨_, _, _, _, _, _, _, _, _, h6, _⟩ := h; exact h6
  have hfb : -9223372036854775808 ≤ d.fuse ∧ d.fuse ≤ 9223372036854775807 := by
    simp only [Lit.wf, Bool.and_eq_true, decide_eq_true_eq] at hf
    exact ⟨by have := hf.1; exact this, by have := hf.2; exact this⟩
  have hfin : ∀ (w' : World), Kept [r] w w' → (∀ v0 v1, Own w r #[v0, v1, .int .i64 d.fuse, .int .i64 d.ops, .bool d.down] 65 → Own w' r #[v0, v1, .int .i64 (opD d).fuse, .int .i64 (opD d).ops, .bool (opD d).down] 65) → RAt w' r lo (opD d) := by
    intro w' k hw'
    obtain ⟨sv, wv, o, hs, hw, h1, h2, h3, h4, h5, h6, h7⟩ := h
    refine ⟨sv, wv, hw' _ _ o, ownsRow_keptO hs k o (by decide), ownsRow_keptO hw k o (by decide), Nat.le_trans h1 k.size, h2, h3, h4, ?_, ?_, h7⟩
    · show (Lit.int .i64 (if 0 < d.fuse then d.fuse - 1 else d.fuse)).wf = true
      split
      · exact WalkArith.wf_i64 (by omega)
      · exact h5
    · show d.ops + 1 ≤ 100000; omega
  obtain ⟨sv, wv, o⟩ := h.own
  obtain ⟨c0, c1, c2, c3, c4⟩ := o.c5
  have z := o.z5
  have HF := Lib.hid hfin
  obtain ⟨st, wa, fu, op, dn⟩ := d
  simp only at *
  obtain ⟨q, hq⟩ : ∃ q, q = op + 1 := ⟨_, rfl⟩
  have hop : ((op : Int) + 1) = (q : Int) := by omega
  have HQ := Lib.hid hq
  have hop2 : (op : Int) ≤ 100000 := by omega
  clear hq ho h hf hfin
  rcases (by omega : fu = 0 ∨ fu < 0 ∨ 0 < fu) with rfl | hp | hp
  · go_enter Try.func100, Try.ntmps100
    go_wp2_with fail
    go_ret
    have kk := ((Kept.refl [r] w).setCell (p := ⟨r, 3, none⟩) (Or.inl (by simp)) (.int .i64 q)).setCell (p := ⟨r, 4, none⟩) (Or.inl (by simp)) (.bool true)
    refine ⟨rfl, HF.out _ kk (fun v0 v1 o => ?_), kk⟩
    show Own _ r #[v0, v1, .int .i64 0, .int .i64 ((op + 1 : Nat) : Int), .bool true] _
    rw [← HQ.out]
    exact (o.set 3 _).set 4 _
  · have hne : (fu == 0) = false := by rw [beq_eq_false_iff_ne]; omega
    have hdc : decide (fu = 0) = false := decide_eq_false (by omega)
    rw [hdc]
    go_enter Try.func100, Try.ntmps100
    go_wp2_with fail
    go_ret
    have kk := (Kept.refl [r] w).setCell (p := ⟨r, 3, none⟩) (Or.inl (by simp)) (.int .i64 q)
    have ef : (opD ⟨st, wa, fu, op, dn⟩).fuse = fu := by show (if 0 < fu then fu - 1 else fu) = _; rw [if_neg (by omega)]
    have ed : (opD ⟨st, wa, fu, op, dn⟩).down = dn := by show (if fu = 0 then true else dn) = _; rw [if_neg (by omega)]
    refine ⟨rfl, HF.out _ kk (fun v0 v1 o => ?_), kk⟩
    rw [ef, ed]
    show Own _ r #[v0, v1, .int .i64 fu, .int .i64 ((op + 1 : Nat) : Int), .bool dn] _
    rw [← HQ.out]
    exact o.set 3 _
  · have hne : (fu == 0) = false := by rw [beq_eq_false_iff_ne]; omega
    have hdc : decide (fu = 0) = false := decide_eq_false (by omega)
    rw [hdc]
    go_enter Try.func100, Try.ntmps100
    go_wp2_with fail
    go_ret
    have kk := ((Kept.refl [r] w).setCell (p := ⟨r, 3, none⟩) (Or.inl (by simp)) (.int .i64 q)).setCell (p := ⟨r, 2, none⟩) (Or.inl (by simp)) (.int .i64 (fu - 1))
    have ef : (opD ⟨st, wa, fu, op, dn⟩).fuse = fu - 1 := by show (if 0 < fu then fu - 1 else fu) = _; rw [if_pos hp]
    have ed : (opD ⟨st, wa, fu, op, dn⟩).down = dn := by show (if fu = 0 then true else dn) = _; rw [if_neg (by omega)]
    refine ⟨rfl, HF.out _ kk (fun v0 v1 o => ?_), kk⟩
    rw [ef, ed]
    show Own _ r #[v0, v1, .int .i64 (fu - 1), .int .i64 ((op + 1 : Nat) : Int), .bool dn] _
    rw [← HQ.out]
    exact (o.set 3 _).set 2 _
set_option maxRecDepth 100000 in
theorem qImage (r lo : Nat) (d : DK) (w : World) (h : RAt w r lo d) (hm : ∀ s ∈ d.stand, s.length ≤ 128) : Calls Try.prog 36 #[.pointer (some ⟨r, 0, none⟩)] w fun e w' => e = .returned (.string (bs d.stand.flatten)) ∧ w = w' := by
  obtain ⟨p, c, p', c', c0, c1, c2, c3, c4, hs, hw, h1, h2, h3, h4, h5⟩ := h.five
  obtain ⟨gs, cs, es, hg1, hg2, _, _, hsc⟩ := ownsRow_at hs (by omega)
  injection es with es _ ecs
  subst es
  have hcell : ∀ k, (hk : k < d.stand.length) → w.cell? ⟨gs, k, none⟩ = some (.string (bs d.stand[k])) := fun k hk => hsc k _ (svals_get d.stand k hk)
  have hcat : ∀ k, (hk : k < d.stand.length) → bs (catTo d.stand k) ++ bs d.stand[k] = bs (catTo d.stand (k + 1)) := fun k hk => by
    rw [bs_append]; unfold catTo; rw [List.take_succ_eq_append_getElem hk, List.flatten_append]; simp
  have hfin : catTo d.stand d.stand.length = d.stand.flatten := by unfold catTo; rw [List.take_length]
  have hlen : ∀ k, (catTo d.stand k).length ≤ 1048576 := fun k => by
    unfold catTo
    have h6 : ∀ l : List (List UInt8), (∀ s ∈ l, s.length ≤ 128) → l.flatten.length ≤ 128 * l.length := by
      intro l hl
      induction l with
      | nil => simp
      | cons a l ih =>
        rw [List.flatten_cons, List.length_append, List.length_cons]
        have := ih (fun s hs => hl s (List.mem_cons_of_mem _ hs))
        have := hl a (List.mem_cons_self)
        omega
    have := h6 (d.stand.take k) (fun s hs => hm s (List.mem_of_mem_take hs))
    have := List.length_take_le' k d.stand
    omega
  have HC := Lib.hid hcell
  have HCAT := Lib.hid hcat
  have HFIN := Lib.hid hfin
  have HLEN := Lib.hid hlen
  have HN : Hid (d.stand.length ≤ 8192) := h2
  clear hcell hcat hfin hlen hs hw h hsc hm
  go_enter Try.func36, Try.ntmps36
  go_wp2_with fail
  go_loop [3, 4] (fun s k => ∃ j : Nat, j ≤ d.stand.length ∧ k = .int .i64 j ∧ s = .string (bs (catTo d.stand j))) (fun _ k => d.stand.length - (intOf k).toNat)
  case atStart => exact ⟨0, by omega, rfl, rfl⟩
  case round =>
    obtain ⟨j, hj, rfl, rfl⟩ := hrel
    by_cases hlt : j < d.stand.length
    · have cj := HC.out j hlt
      have hcj := HCAT.out j hlt
      have hl2 := HLEN.out (j + 1)
      have hz0 : (bs (catTo d.stand j)).size ≤ 1048576 := by rw [bs_size]; exact HLEN.out j
      have hz1 : (bs (catTo d.stand j)).size + (bs d.stand[j]).size ≤ 1048576 := by
        have := congrArg ByteArray.size hcj
        rw [ByteArray.size_append, bs_size (catTo d.stand (j + 1))] at this
        omega
      have hz2 : (bs d.stand[j]).size ≤ 1048576 := by omega
      have i2 : (j : Int) < d.stand.length := by omega
      have HLT := Lib.hid hlt
      have HCJ := Lib.hid hcj
      clear hl2 hcj
      generalize bs d.stand[j] = SJ at *
      generalize bs (catTo d.stand j) = S0 at *
      go_wp2_with fail
      go_round
      case rel => exact ⟨j + 1, HLT.out, by go_num, by rw [← HCJ.out]⟩
      case measure => (have hh := HLT.out; simp [intOf]; omega)
    · obtain rfl : j = d.stand.length := by omega
      rw [HFIN.out]
      go_wp2_with fail
      go_ret
      exact ⟨rfl, rfl⟩
end Go.Proofs.Ytegbekeopgponaa
