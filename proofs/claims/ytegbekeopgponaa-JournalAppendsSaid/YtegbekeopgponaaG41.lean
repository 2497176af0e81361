/- Layer 13 (journal): a case's disk, laid, the program's and the document's; which cases are far too much. -/
import Derived.Test.YtegbekeopgponaaG22
import Derived.Test.YtegbekeopgponaaG39
import Derived.Lib.ConvBytes
namespace Go.Proofs.Ytegbekeopgponaa
open Go.RowKit
set_option linter.unusedVariables false
set_option linter.unusedSimpArgs false

theorem BKept.own' {b sb mb lo r : Nat} {w w' : World} {g : Nat} {cs : Array Value} {t : TypeId} (k : BKept b sb mb lo r w w') (o : Own w g cs t) (h1 : b < g) (h2 : sb < g) (h3 : mb < g) (h4 : r < g) (ht : t ≠ 130) : Own w' g cs t :=
  Eq.trans (k.2.2.2.2 g o.lt (by omega) (by omega) (by omega) (by omega) (Or.inr (fun cs2 f hc => by
    have o' : w.heap[g]? = some (.cells cs t (0, 0)) := o
    rw [o'] at hc
    injection hc with hc
    injection hc with _ e
    exact ht e))) o
theorem Both.lt' {W0 w : World} {b sb mb lo r rlo : Nat} {d rd : DK} (h : Both W0 w b sb mb lo r rlo d rd) : b < w.heap.size ∧ sb < w.heap.size ∧ mb < w.heap.size ∧ r < w.heap.size := by
  obtain ⟨wv, n, o, os, hwr, hm, _⟩ := h.alone.disk
  obtain ⟨v0, v1, o2⟩ := h.ref.own
  exact ⟨o.lt, os.lt, hm.lt, o2.lt⟩
/-- a disk that never was cut. -/
structure Calm (d : DK) (n m : Nat) : Prop where
  len : d.stand.length = n
  ops : d.ops ≤ m
  waits : d.waits.length ≤ m
  down : d.down = false
  fuse : d.fuse = -1
theorem Calm.write {d : DK} {n m : Nat} (h : Calm d n m) (i : Int) (s : List UInt8) : Calm (wNext d i s) n (m + 1) := by
  obtain ⟨h1, h2, h3, h4, h5⟩ := h
  unfold wNext
  split
  · refine ⟨h1, by show d.ops + 1 ≤ m + 1; omega, by show (d.waits ++ [_]).length ≤ m + 1; rw [List.length_append, List.length_singleton]; omega, ?_, ?_⟩
    · show (if d.fuse = 0 then true else d.down) = false
      rw [if_neg (by omega), h4]
    · show (if 0 < d.fuse then d.fuse - 1 else d.fuse) = -1
      rw [if_neg (by omega), h5]
  · exact ⟨h1, by omega, by omega, h4, h5⟩
theorem Calm.flush {d : DK} {n m : Nat} (h : Calm d n m) : Calm (fNext d) n (m + 1) ∧ (fNext d).waits = [] := by
  obtain ⟨h1, h2, h3, h4, h5⟩ := h
  have hn : fNext d = settleD (opD d) (fun _ => true) := by
    unfold fNext
    rw [if_neg (by rw [h4]; simp), if_neg (by omega)]
  rw [hn]
  refine ⟨⟨(settle_len _ _).trans h1, by show d.ops + 1 ≤ m + 1; omega, Nat.zero_le _, ?_, ?_⟩, rfl⟩
  · show (if d.fuse = 0 then true else d.down) = false
    rw [if_neg (by omega), h4]
  · show (if 0 < d.fuse then d.fuse - 1 else d.fuse) = -1
    rw [if_neg (by omega), h5]
/-- a sector of rising bytes, as far as it is laid. -/
def secTo (x j : Nat) : List UInt8 := ((List.range j).map fun k => UInt8.ofNat (x + k)) ++ List.replicate (128 - j) 0
theorem secTo_len (x j : Nat) (h : j ≤ 128) : (secTo x j).length = 128 := by simp [secTo]; omega
theorem sec_step {w : World} {g x j : Nat} {t : TypeId} (h : Own w g (bcells (secTo x j)) t) (hj : j < 128) :
    Own (w.setCell ⟨g, j, none⟩ (.int .u8 (((x : Int) + (j : Int)) % 256))) g (bcells (secTo x (j + 1))) t := by
  have h1 := h.set j (.int .u8 ((UInt8.ofNat (x + j)).toNat : Int))
  rw [bcells_set] at h1
  have e1 : ((UInt8.ofNat (x + j)).toNat : Int) = ((x : Int) + (j : Int)) % 256 := by rw [UInt8.toNat_ofNat']; omega
  have e2 : (secTo x j).set j (UInt8.ofNat (x + j)) = secTo x (j + 1) := by
    unfold secTo
    obtain ⟨m, hm⟩ : ∃ m, 128 - j = m + 1 := ⟨128 - j - 1, by omega⟩
    have hm' : 128 - (j + 1) = m := by omega
    rw [hm, hm', List.replicate_succ, List.range_succ, List.map_append, List.set_append_right _ _ (by simp)]
    simp
  rw [e1, e2] at h1
  exact h1
/-- what a call of 'laid' tells. -/
def LaidSays (n : Nat) (w : World) (e : Ending) (w' : World) : Prop :=
  ∃ W0 b sb mb lo r rlo d, e = .returned (.tuple #[.pointer (some ⟨b, 0, none⟩), .pointer (some ⟨r, 0, none⟩), .bool true]) ∧ Both W0 w' b sb mb lo r rlo d d ∧ Kept [] w W0 ∧ Calm d n 50 ∧ d.waits = []
set_option maxRecDepth 100000 in
set_option maxHeartbeats 4000000 in
theorem jlaid (a : JCase) (vb vk : Value) (n hi : Nat) (w : World) (hb : BytesIn w vb a.bytes 0 hi) (hn : a.n = n) (h1 : 1 ≤ n) (h2 : n ≤ 40) (hvk : ∃ pk nk ck, vk = .slice pk nk ck) :
    Calls Try.prog 25 #[.agg (a.cells vb vk)] w (LaidSays n w) := by
  obtain ⟨pb, cb, rfl⟩ := hb.shape
  obtain ⟨pk, nk, ck, rfl⟩ := hvk
  have hblen := hb.len
  unfold maxLen at hblen
  have o0 := Own.new w (a.cells (.slice pb a.bytes.length cb) (.slice pk nk ck)) 39
  have k0 : Kept [] w (w.alloc (.cells (a.cells (.slice pb a.bytes.length cb) (.slice pk nk ck)) 39)) := (Kept.refl _ _).alloc _
  have hb0 := hb.kept0 k0
  unfold JCase.cells at *
  rw [hn] at o0 k0 hb0
  rw [hn]
  have hA := fun W => aNew n W h1 (by omega)
  have hQ := fun W => qNew n W h1 (by omega)
  have HA := Lib.hid hA
  have HQ := Lib.hid hQ
  have OO := Lib.hid o0
  have KK := Lib.hid k0
  have HB := Lib.hid hb0
  have HBL := Lib.hid hblen
  have hn1 : (1 : Int) ≤ n := by omega
  have hn2 : (n : Int) ≤ 40 := by omega
  have hi0 : (Try.prog.info? 5).map (fun i => (i.zero, i.size, i.bytes)) = some (some (.int .u8 0), 1, 1) := by kernel_rfl
  obtain ⟨i0, hi0, hz0, hz1, hz2⟩ := info_parts hi0
  have hmk : ∀ W : World, (Instr.makeSlice 36 (.int .i64 128) (.int .i64 128)).run Try.prog W = .ok (.slice (some ⟨W.heap.size, 0, none⟩) 128 128) (W.alloc (.cells (bcells (List.replicate 128 0)) 5)) := fun W => by
    have h := run_make (P := Try.prog) W 36 5 i0 (.int .u8 0) Try.underlying36 hi0 hz0 .i64 .i64 128 128 (by omega) (by omega) (by rw [hz2]; omega) (by omega)
    rw [hz1] at h
    have e : madeCells (Value.int IntKind.u8 0).cells 128 = bcells (List.replicate 128 0) := by
      apply Array.toList_inj.1
      simp [bcells, Value.cells, toList_madeCells_one]
    have e2 : Int.toNat 128 = 128 := rfl
    rw [e2, Nat.mul_one, e] at h
    exact h
  clear hA hQ o0 k0 hb0 hb hblen
  generalize a.bytes = BL at *
  generalize hW0 : w.alloc (.cells #[.int .i64 (n : Int), .slice pb BL.length cb, .int .i64 a.fuse, .int .i64 a.j, .int .i64 a.u, .string (bs a.s), .slice pk nk ck] 39) = W0 at *
  have hws : w.heap.size < W0.heap.size := OO.out.lt
  obtain ⟨c0, c1⟩ : W0.cell? ⟨w.heap.size, 0, none⟩ = some (.int .i64 (n : Int)) ∧ W0.cell? ⟨w.heap.size, 1, none⟩ = some (.slice pb BL.length cb) := ⟨OO.out.cell 0 (by simp), OO.out.cell 1 (by simp)⟩
  have HW0 := Lib.hid hW0
  clear hW0
  go_enter Try.func25, Try.ntmps25
  go_wp2_with fail
  rw [HW0.out]
  clear c0 c1
  refine (HA.out _).mono ?_; rintro e w1 ⟨b, sb, mb, lo, rfl, hAl⟩
  have o1 := hAl.kept.own OO.out (by simp)
  have c0 : w1.cell? ⟨w.heap.size, 0, none⟩ = some (.int .i64 (n : Int)) := o1.cell 0 (by simp)
  have HAL := Lib.hid hAl
  clear hAl o1 HA
  go_wp2_with fail
  refine (HQ.out _).mono ?_; rintro e w2 ⟨rfl, hR, hk2⟩
  have hB := Both.of HAL.out hR hk2 (Fit.new n)
  have hcalm : Calm (newD (List.replicate n zeroS)) n 0 := ⟨by show (List.replicate n zeroS).length = n; simp, Nat.le_refl _, Nat.le_refl _, rfl, rfl⟩
  have HBO := Lib.hid hB
  have HCA := Lib.hid hcalm
  clear HQ HAL hR hk2 c0 hB hcalm
  generalize newD (List.replicate n zeroS) = d0 at *
  generalize w1.heap.size = r at *
  generalize hob : w.heap.size = ob at *
  go_wp2_with fail
  go_loopw [8, 9, 10] (fun i v9 v10 wr => ∃ (k : Nat) (d : DK), k ≤ n ∧ k ≤ BL.length ∧ i = .int .i64 k ∧ Both W0 wr b sb mb lo r r d d ∧ Calm d n k) (fun i _ _ _ => n - (intOf i).toNat)
  case atStart => exact ⟨0, d0, by omega, by omega, rfl, HBO.out, HCA.out⟩
  case round =>
    obtain ⟨k, d, hkn, hkb, rfl, hB, hC⟩ := hrel
    have hkk := hB.alone.kept
    have o1 := hkk.own OO.out (by simp)
    have c0 : wr.cell? ⟨ob, 0, none⟩ = some (.int .i64 (n : Int)) := o1.cell 0 (by simp)
    have c1 : wr.cell? ⟨ob, 1, none⟩ = some (.slice pb BL.length cb) := o1.cell 1 (by simp)
    have hobw := o1.lt
    obtain ⟨l1, l2, l3, l4⟩ := hB.lt'
    have HBO2 := Lib.hid hB
    have HCA2 := Lib.hid hC
    clear o1 hB hC HBO HCA
    by_cases hlt : k < BL.length ∧ k < n
    · obtain ⟨hlt, hltn⟩ := hlt
      obtain ⟨bb, off, rfl, q0, _, hbh, hhw⟩ := (HB.out.kept0 hkk).at_ k hlt
      have HLT : Hid (k < BL.length ∧ k < n) := ⟨hlt, hltn⟩
      have i1 : (k : Int) < BL.length := by omega
      have i2 : (k : Int) < n := by omega
      have i3 : (BL.length : Int) ≤ 9223372036854775807 := by have := HBL.out; omega
      have hx := BL[k].toNat_lt
      generalize BL[k].toNat = x at *
      have hx' : (x : Int) < 256 := by omega
      have hbbw : bb < wr.heap.size := by omega
      clear hlt hltn hx
      go_wp2_with fail
      obtain ⟨wo, rfl⟩ : ∃ wo : World, wo = wr := ⟨_, rfl⟩
      go_loopw [10] (fun v10 wr => ∃ j : Nat, j ≤ 128 ∧ v10 = .int .i64 j ∧ Kept [] wo wr ∧ Own wr wo.heap.size (bcells (secTo x j)) 5) (fun v10 _ => 128 - (intOf v10).toNat)
      case atStart => exact ⟨0, by omega, rfl, (Kept.refl _ _).alloc _, by have := Own.new wo (bcells (List.replicate 128 0)) 5; simpa [secTo] using this⟩
      case round =>
        obtain ⟨j, hj, rfl, kj, oj⟩ := hrel
        by_cases hjl : j < 128
        · have q1 : wr.cell? ⟨bb, off + k, none⟩ = some (.int .u8 (x : Int)) := (kj.cell (a := ⟨bb, off + k, none⟩) (by exact hbbw) (by simp)).trans q0
          have c1' : wr.cell? ⟨ob, 1, none⟩ = some (.slice (some ⟨bb, off, none⟩) BL.length cb) := (kj.cell (a := ⟨ob, 1, none⟩) (by exact hobw) (by simp)).trans c1
          obtain ⟨v, cj⟩ : ∃ v, wr.cell? ⟨wo.heap.size, j, none⟩ = some v := ⟨_, oj.cell j (by rw [bcells_size, secTo_len x j hj]; omega)⟩
          have zj := oj.free j
          have hst := sec_step oj hjl
          have HST := Lib.hid hst
          have HJL := Lib.hid hjl
          have j1 : (j : Int) < 128 := by omega
          have ksj : Kept [] wo (wr.setCell ⟨wo.heap.size, j, none⟩ (.int .u8 (((x : Int) + (j : Int)) % 256))) := kj.setCell (Or.inr (Nat.le_refl _)) _
          have KSJ := Lib.hid ksj
          clear hst oj ksj hjl
          go_wp2_with fail
          go_roundw
          case rel => exact ⟨j + 1, HJL.out, by go_num, KSJ.out, HST.out⟩
          case measure => (have hh := HJL.out; simp [intOf]; omega)
        · obtain rfl : j = 128 := by omega
          have hB2 := HBO2.out.keep0 kj
          have hslen : (secTo x 128).length = 128 := secTo_len x 128 (Nat.le_refl _)
          have hconv : ∀ W, Own W wo.heap.size (bcells (secTo x 128)) 5 → (convert 36 9 (.slice (some ⟨wo.heap.size, 0, none⟩) 128 128)).run Try.prog W = .ok (.string (bs (secTo x 128))) W := fun W o => by
            have := Lib.run_convert_whole (P := Try.prog) W 36 5 9 Try.underlying36 Try.underlying5 Try.underlying9 _ _ _ (own_bytes o) 128
            rw [bs_size, hslen] at this
            exact this
          have hbd : d.ops < 100000 ∧ d.waits.length ≤ 10000 := by have h1 := HCA2.out.ops; have h2 := HCA2.out.waits; omega
          have hw1 := fun W (h : Both W0 W b sb mb lo r r d d) => h.dWrite (k : Int) (secTo x 128) hbd.1 hbd.2
          have hw2 := fun W (h : Both W0 W b sb mb lo r r (wNext d (k : Int) (secTo x 128)) d) => h.qWrite (k : Int) (secTo x 128) hbd.1 (by omega)
          have hcal := HCA2.out.write (k : Int) (secTo x 128)
          have HCONV := Lib.hid hconv
          have HW1 := Lib.hid hw1
          have HW2 := Lib.hid hw2
          have HCAL := Lib.hid hcal
          have HB2 := Lib.hid hB2
          clear hconv hw1 hw2 hcal hB2 hbd
          generalize secTo x 128 = SEC at *
          generalize wNext d (k : Int) SEC = d' at *
          generalize wCode d (k : Int) SEC = C at *
          go_upto_region 13 with fail
          refine wp_region_held_drew (S := (fun W => Own W wo.heap.size (bcells SEC) 5)) (by kernel_rfl) (by exact Own.drew oj) (fun hHeld => ?_)
          refine take_at (i := 0) (d := some 57) (v := ?_) rfl rfl (by kernel_rfl) (by kernel_rfl) (by kernel_rfl) (fun _ _ _ h => h) (Or.inl ⟨by rfl, ?_⟩) (by assumption) ?_
          rotate_left
          · (intro w hSw; (try dsimp only at hSw); go_simp; try with_reducible rfl)
          try simp only [Act.put, List.setIfInBounds_toArray, List.set_cons_zero, List.set_cons_succ]
          refine take_at (i := 1) (d := some 58) (v := ?_) rfl rfl (by kernel_rfl) (by kernel_rfl) (by kernel_rfl) (fun _ _ _ h => h) (Or.inl ⟨by rfl, ?_⟩) (by assumption) ?_
          rotate_left
          · (intro w hSw; (try dsimp only at hSw); go_simp; try with_reducible rfl)
          try simp only [Act.put, List.setIfInBounds_toArray, List.set_cons_zero, List.set_cons_succ]
          refine take_at (i := 2) (d := some 59) (v := ?_) rfl rfl (by kernel_rfl) (by kernel_rfl) (by kernel_rfl) (fun _ _ _ h => h) (Or.inl ⟨by rfl, ?_⟩) (by assumption) ?_
          rotate_left
          · (intro w hSw; (try dsimp only at hSw); go_simp; try with_reducible rfl)
          try simp only [Act.put, List.setIfInBounds_toArray, List.set_cons_zero, List.set_cons_succ]
          refine take_at (i := 3) (d := some 60) (v := .string (bs SEC)) rfl rfl (by kernel_rfl) (by kernel_rfl) (by kernel_rfl) (fun _ _ _ h => h) (Or.inl ⟨by rfl, ?_⟩) (by assumption) ?_
          · intro W hSw; have hcv := HCONV.out W hSw; go_simp; try with_reducible rfl
          try simp only [Act.put, List.setIfInBounds_toArray, List.set_cons_zero, List.set_cons_succ]
          refine take_at (i := 5) (d := some 62) (v := ?_) rfl rfl (by kernel_rfl) (by kernel_rfl) (by kernel_rfl) (fun _ _ _ h => h) (Or.inl ⟨by rfl, ?_⟩) (by assumption) ?_
          rotate_left
          · (intro w hSw; (try dsimp only at hSw); go_simp; try with_reducible rfl)
          try simp only [Act.put, List.setIfInBounds_toArray, List.set_cons_zero, List.set_cons_succ]
          refine take_at (i := 6) (d := some 63) (v := ?_) rfl rfl (by kernel_rfl) (by kernel_rfl) (by kernel_rfl) (fun _ _ _ h => h) (Or.inl ⟨by rfl, ?_⟩) (by assumption) ?_
          rotate_left
          · (intro w hSw; (try dsimp only at hSw); go_simp; try with_reducible rfl)
          try simp only [Act.put, List.setIfInBounds_toArray, List.set_cons_zero, List.set_cons_succ]
          refine take_at (i := 7) (d := some 64) (v := ?_) rfl rfl (by kernel_rfl) (by kernel_rfl) (by kernel_rfl) (fun _ _ _ h => h) (Or.inl ⟨by rfl, ?_⟩) (by assumption) ?_
          rotate_left
          · (intro w hSw; (try dsimp only at hSw); go_simp; try with_reducible rfl)
          try simp only [Act.put, List.setIfInBounds_toArray, List.set_cons_zero, List.set_cons_succ]
          refine take_at (i := 8) (d := some 65) (v := .string (bs SEC)) rfl rfl (by kernel_rfl) (by kernel_rfl) (by kernel_rfl) (fun _ _ _ h => h) (Or.inl ⟨by rfl, ?_⟩) (by assumption) ?_
          · intro W hSw; have hcv := HCONV.out W hSw; go_simp; try with_reducible rfl
          try simp only [Act.put, List.setIfInBounds_toArray, List.set_cons_zero, List.set_cons_succ]
          refine wpAnyH_ready (rs := [4]) (by kernel_rfl) (by simp) ?_
          refine (AllReadyH.cons rfl (fun K hK => ?_) AllReadyH.nil)
          go_simp
          ((with_reducible refine (HW1.out _ HB2.out.drew).mono ?_)); rintro e w3 ⟨rfl, hB3, kb3⟩
          have oj3 : Own w3 wo.heap.size (bcells SEC) 5 := kb3.own' (Own.drew oj) (by omega) (by omega) (by omega) (by omega) (by decide)
          go_wp2_with fail
          refine hK.out _ _ ?_ (fun hHeld => ?_)
          · exact oj3
          clear hK K
          try simp only [Act.put, List.setIfInBounds_toArray, List.set_cons_zero, List.set_cons_succ]
          refine wpAnyH_ready (rs := [9]) (by kernel_rfl) (by simp) ?_
          refine (AllReadyH.cons rfl (fun K hK => ?_) AllReadyH.nil)
          go_simp
          ((with_reducible refine (HW2.out _ hB3).mono ?_)); rintro e w4 ⟨rfl, hB4, kb4⟩
          have oj4 : Own w4 wo.heap.size (bcells SEC) 5 := kb4.own' oj3 (by omega) (by omega) (by omega) (by omega) (by decide)
          go_wp2_with fail
          refine hK.out _ _ ?_ (fun hHeld => ?_)
          · exact oj4
          clear hK K
          try simp only [Act.put, List.setIfInBounds_toArray, List.set_cons_zero, List.set_cons_succ]
          refine take_at (i := 10) (d := some 67) (v := ?_) rfl rfl (by kernel_rfl) (by kernel_rfl) (by kernel_rfl) (fun _ _ _ h => h) (Or.inl ⟨by rfl, ?_⟩) (by assumption) ?_
          rotate_left
          · (intro w hSw; (try dsimp only at hSw); go_simp; try with_reducible rfl)
          try simp only [Act.put, List.setIfInBounds_toArray, List.set_cons_zero, List.set_cons_succ]
          refine wpAnyH_done (by kernel_rfl) ?_ _
          have HB4 := Lib.hid hB4
          clear hB3 hB4 kb3 kb4 oj oj3 oj4
          go_wp2_with fail
          go_roundw
          case rel => exact ⟨k + 1, d', HLT.out.2, HLT.out.1, by go_num, HB4.out, HCAL.out⟩
          case measure => (have hh := HLT.out; simp [intOf]; omega)
    · have hbd : d.ops < 100000 ∧ d.waits.length ≤ 10000 := by have h1 := HCA2.out.ops; have h2 := HCA2.out.waits; omega
      have hf1 := HBO2.out.dFlush hbd.1 hbd.2
      have hf2 := fun W (h : Both W0 W b sb mb lo r r (fNext d) d) => h.qFlush hbd.1
      have hcal := HCA2.out.flush
      have HF1 := Lib.hid hf1
      have HF2 := Lib.hid hf2
      have hcal2 : Calm (fNext d) n 50 := ⟨hcal.1.len, by have := hcal.1.ops; omega, by have := hcal.1.waits; omega, hcal.1.down, hcal.1.fuse⟩
      have HCAL := Lib.hid hcal2
      have HCW := Lib.hid hcal.2
      clear hf1 hf2 hcal hcal2 hbd HBO2 HCA2
      generalize fNext d = d' at *
      generalize fCode d = C at *
      rcases (by omega : BL.length ≤ k ∨ (k < BL.length ∧ n ≤ k)) with hge | ⟨hge, hge2⟩
      · have i1 : ¬ ((k : Int) < BL.length) := by omega
        clear hlt
        go_wp2_with fail
        refine HF1.out.mono ?_; rintro e w3 ⟨rfl, hB3, kb3⟩
        have hf3 := HF2.out _ hB3
        have HF3 := Lib.hid hf3
        clear hf3 hB3 HF2
        go_wp2_with fail
        refine HF3.out.mono ?_; rintro e w4 ⟨rfl, hB4, kb4⟩
        have HB4 := Lib.hid hB4
        clear hB4
        go_wp2_with fail
        go_ret3
        exact ⟨W0, b, sb, mb, lo, r, r, d', rfl, HB4.out, KK.out, HCAL.out, HCW.out⟩
      · have i1 : (k : Int) < BL.length := by omega
        have i2 : ¬ ((k : Int) < n) := by omega
        clear hlt
        go_wp2_with fail
        refine HF1.out.mono ?_; rintro e w3 ⟨rfl, hB3, kb3⟩
        have hf3 := HF2.out _ hB3
        have HF3 := Lib.hid hf3
        clear hf3 hB3 HF2
        go_wp2_with fail
        refine HF3.out.mono ?_; rintro e w4 ⟨rfl, hB4, kb4⟩
        have HB4 := Lib.hid hB4
        clear hB4
        go_wp2_with fail
        go_ret3
        exact ⟨W0, b, sb, mb, lo, r, r, d', rfl, HB4.out, KK.out, HCAL.out, HCW.out⟩
/-- is a case far too much? -/
def BigSays (a : JCase) (w : World) (e : Ending) (w' : World) : Prop := Kept [] w w' ∧ (e = .returned (.bool true) ∨ (e = .returned (.bool false) ∧ 1 ≤ a.n ∧ a.n ≤ 40 ∧ a.s.length ≤ 3000 ∧ a.keep.length ≤ 100))
set_option maxRecDepth 100000 in
set_option maxHeartbeats 4000000 in
theorem jbig (a : JCase) (vb vk : Value) (w : World) (lo hi lo' hi' : Nat) (hb : BytesIn w vb a.bytes lo hi) (hk : BoolsIn w vk a.keep lo' hi') :
    Calls Try.prog 23 #[.agg (a.cells vb vk)] w (BigSays a w) := by
  obtain ⟨pb, cb, rfl⟩ := hb.shape
  have hsk : ∃ pk ck, vk = .slice pk a.keep.length ck := by
    rcases hk with ⟨e, x, c, rfl⟩ | ⟨b, off, c, rfl, _⟩
    · exact ⟨_, _, by rw [e]; rfl⟩
    · exact ⟨_, _, rfl⟩
  obtain ⟨pk, ck, rfl⟩ := hsk
  have hz : ((bs a.s).size : Int) = a.s.length := by rw [bs_size]
  unfold JCase.cells BigSays
  clear hb hk
  have hcase : a.n < 1 ∨ (1 ≤ a.n ∧ 40 < a.n) ∨ (1 ≤ a.n ∧ a.n ≤ 40 ∧ 3000 < a.s.length) ∨ (1 ≤ a.n ∧ a.n ≤ 40 ∧ a.s.length ≤ 3000 ∧ 100 < a.keep.length) ∨ (1 ≤ a.n ∧ a.n ≤ 40 ∧ a.s.length ≤ 3000 ∧ a.keep.length ≤ 100) := by omega
  generalize a.keep.length = kl at *
  generalize a.s.length = sl at *
  generalize bs a.s = S at *
  obtain ⟨sz, hsz⟩ : ∃ sz : Int, (S.size : Int) = sz := ⟨_, rfl⟩
  rw [hsz] at hz
  have HZ := Lib.hid hz
  clear hz
  have kk : Kept [] w (w.alloc (.cells #[.int .i64 a.n, .slice pb a.bytes.length cb, .int .i64 a.fuse, .int .i64 a.j, .int .i64 a.u, .string S, .slice pk kl ck] 39)) := (Kept.refl _ _).alloc _
  have KK := Lib.hid kk
  clear kk
  generalize a.n = n at *
  rcases hcase with h1 | ⟨h1, h2⟩ | ⟨h1, h2, h3⟩ | ⟨h1, h2, h3, h4⟩ | ⟨h1, h2, h3, h4⟩
  · go_enter Try.func23, Try.ntmps23
    go_wp2_with fail
    go_ret
    exact ⟨KK.out, Or.inl rfl⟩
  · go_enter Try.func23, Try.ntmps23
    go_wp2_with fail
    go_ret
    exact ⟨KK.out, Or.inl rfl⟩
  · have h3' : 3000 < sz := by have := HZ.out; omega
    clear h3
    go_enter Try.func23, Try.ntmps23
    go_wp2_with fail
    go_ret
    exact ⟨KK.out, Or.inl rfl⟩
  · have h3' : sz ≤ 3000 := by have := HZ.out; omega
    have h4' : (100 : Int) < kl := by omega
    clear h3 h4
    go_enter Try.func23, Try.ntmps23
    go_wp2_with fail
    go_ret
    exact ⟨KK.out, Or.inl rfl⟩
  · have h3' : sz ≤ 3000 := by have := HZ.out; omega
    have h4' : (kl : Int) ≤ 100 := by omega
    have H34 : Hid (sl ≤ 3000 ∧ kl ≤ 100) := ⟨h3, h4⟩
    clear h3 h4
    go_enter Try.func23, Try.ntmps23
    go_wp2_with fail
    go_ret
    exact ⟨KK.out, Or.inr ⟨congrArg (fun b => Ending.returned (Value.bool b)) (by simp only [Bool.or_eq_false_iff, decide_eq_false_iff_not]; omega), h1, h2, H34.out.1, H34.out.2⟩⟩
set_option maxRecDepth 100000 in
set_option maxHeartbeats 1000000 in
theorem qfits (n : Nat) (j u : Int) (w : World) (hn : n ≤ 8192) (hj : (Lit.int .i64 j).wf = true) (hu : (Lit.int .i64 u).wf = true) :
    Calls Try.prog 24 #[.int .i64 n, .int .i64 j, .int .i64 u] w fun e w' => e = .returned (.bool (fitCode n j u == 0)) ∧ w = w' := by
  obtain ⟨j1, j2⟩ := bd64 hj
  obtain ⟨u1, u2⟩ := bd64 hu
  have hn' : (n : Int) ≤ 8192 := by omega
  have hn0 : (0 : Int) ≤ n := by omega
  have hcase : (fitCode n j u = 1 ∧ (j < 1 ∨ (1 ≤ j ∧ (n : Int) - 2 < j) ∨ (1 ≤ j ∧ j ≤ (n : Int) - 2 ∧ u < 0) ∨ (1 ≤ j ∧ j ≤ (n : Int) - 2 ∧ 0 ≤ u ∧ 128 * j < u))) ∨ (fitCode n j u = 0 ∧ 1 ≤ j ∧ j ≤ (n : Int) - 2 ∧ 0 ≤ u ∧ u ≤ 128 * j) := by
    unfold fitCode
    by_cases hc : j < 1 ∨ (n : Int) - 2 < j ∨ u < 0 ∨ 128 * j < u
    · rw [if_pos hc]; omega
    · rw [if_neg hc]; omega
  clear hj hu hn
  generalize fitCode n j u = F at *
  generalize (n : Int) = m at *
  rcases hcase with ⟨rfl, c1 | ⟨c1, c2⟩ | ⟨c1, c2, c3⟩ | ⟨c1, c2, c3, c4⟩⟩ | ⟨rfl, c1, c2, c3, c4⟩
  · go_enter Try.func24, Try.ntmps24
    go_wp2_with fail
    go_ret
    exact ⟨rfl, rfl⟩
  · go_enter Try.func24, Try.ntmps24
    go_wp2_with fail
    go_ret
    exact ⟨rfl, rfl⟩
  · go_enter Try.func24, Try.ntmps24
    go_wp2_with fail
    go_ret
    exact ⟨rfl, rfl⟩
  · have hm : j * 128 < u := by omega
    have hm2 : j * 128 ≤ 2000000 := by omega
    have hm3 : 0 ≤ j * 128 := by omega
    go_enter Try.func24, Try.ntmps24
    go_wp2_with fail
    go_ret
    exact ⟨congrArg (fun b => Ending.returned (Value.bool b)) (decide_eq_false (by omega)), rfl⟩
  · have hm : u ≤ j * 128 := by omega
    have hm2 : j * 128 ≤ 2000000 := by omega
    have hm3 : 0 ≤ j * 128 := by omega
    go_enter Try.func24, Try.ntmps24
    go_wp2_with fail
    go_ret
    exact ⟨rfl, rfl⟩
end Go.Proofs.Ytegbekeopgponaa
