/- Layer 10 (extent): the reference's Minus, Common, Count. -/
import Derived.Test.YtmljbmhalpdpmaaE16
namespace Go.Proofs.Ytmljbmhalpdpmaa
open Go.RowKit
set_option linter.unusedVariables false
set_option linter.unusedSimpArgs false

/-- the row behind k sectors: those as said, and the others as they were. -/
def mixR (f h : Nat → Bool) (k m : Nat) : Bool := if m < k then h m else f m
theorem mixR_zero (f h : Nat → Bool) (m : Nat) : mixR f h 0 m = f m := by unfold mixR; rw [if_neg (by omega)]
theorem mixR_self (f h : Nat → Bool) (k : Nat) : mixR f h k k = f k := by unfold mixR; rw [if_neg (by omega)]
theorem mixR_next (f h : Nat → Bool) (k m : Nat) (e : m ≠ k) : mixR f h (k + 1) m = mixR f h k m := by
  unfold mixR
  by_cases e2 : m < k
  · rw [if_pos e2, if_pos (by omega)]
  · rw [if_neg e2, if_neg (by omega)]
theorem mixR_at (f h : Nat → Bool) (k : Nat) : mixR f h (k + 1) k = h k := by unfold mixR; rw [if_pos (by omega)]
theorem mixR_end (f h : Nat → Bool) (m : Nat) (e : m < 8192) : mixR f h 8192 m = h m := by unfold mixR; rw [if_pos e]
theorem mixR_set {w : World} {g : Nat} {f h : Nat → Bool} {k : Nat} (hr : RowAt w g (mixR f h k)) (hk : k < 8192) (u : Bool) (hu : u = h k) : RowAt (w.setCell ⟨g, k, none⟩ (.bool u)) g (mixR f h (k + 1)) :=
  Rw.set hr k hk (.bool u) _ (by rw [mixR_at, hu]) (fun m _ hm => by rw [mixR_next f h k m hm])
set_option maxRecDepth 100000 in
set_option maxHeartbeats 2000000 in
theorem zminus (va : Value) (la : List (Int × Int)) (loa hia : Nat) (vb : Value) (lb : List (Int × Int)) (lob hib : Nat) (w : World) (ha : RunsIn w va la loa hia) (hb : RunsIn w vb lb lob hib) (hla : la.length ≤ 1000000) (hlb : lb.length ≤ 1000000) (hwa : ∀ a ∈ la, WfRun a) (hwb : ∀ a ∈ lb, WfRun a) :
    Calls Try.prog 19 #[va, vb] w (GivesR (minusL la lb) w) := by
  have hp := zrow va la loa hia w ha hla hwa
  have hq := fun W (hk : Kept [] w W) => zrow vb lb lob hib W (hb.kept0 hk) hlb hwb
  have hru := fun g W (hg : RowAt W g (fun m => hasB la m && !hasB lb m)) => zruns g _ W hg
  have eL : canon (fun m => hasB la m && !hasB lb m) = minusL la lb := rfl
  rw [eL] at hru
  unfold GivesR at *
  obtain ⟨pa, ca, rfl⟩ := ha.shape
  obtain ⟨pb, cb, rfl⟩ := hb.shape
  have HP := Lib.hid hp
  have HQ := Lib.hid hq
  have HRU := Lib.hid hru
  clear hp hq hru ha hb hwa hwb eL hla hlb
  generalize minusL la lb = L at *
  generalize hasB la = fa at *
  generalize hasB lb = fb at *
  generalize la.length = na at *
  generalize lb.length = nb at *
  obtain ⟨fh, hfh⟩ : ∃ fh : Nat → Bool, (fun m => fa m && !fb m) = fh := ⟨_, rfl⟩
  have HFH := Lib.hid hfh
  rw [hfh] at HRU
  clear hfh
  go_enter Try.func19, Try.ntmps19
  go_wp2_with fail
  refine HP.out.mono ?_; rintro e w1 ⟨rfl, r1, k1⟩
  have hg1 := Rw.lt r1
  have R1 := Lib.hid r1
  clear r1
  go_wp2_with fail
  refine (HQ.out _ k1).mono ?_; rintro e w2 ⟨rfl, r2, k2⟩
  have R1' := Lib.hid (RowAt.congr (f' := mixR fa fh 0) (Rw.kept R1.out k2 (fun h => by cases h)) (fun m _ => (mixR_zero fa fh m).symm))
  have R2 := Lib.hid r2
  have hk2 := k1.trans k2
  have hs1 := k1.size
  obtain ⟨g2, hg2⟩ : ∃ g2, w1.heap.size = g2 := ⟨_, rfl⟩
  rw [hg2] at R2 hg1 ⊢
  clear r2 hg2 R1
  go_wp2_with fail
  go_loopw [7] (fun i wr => ∃ k : Nat, k ≤ 8192 ∧ i = .int .i64 k ∧ RowAt wr w.heap.size (mixR fa fh k) ∧ RowAt wr g2 fb ∧ Kept [] w wr) (fun i _ => 8192 - (intOf i).toNat)
  case atStart => exact ⟨0, by omega, rfl, R1'.out, R2.out, hk2⟩
  case round =>
    obtain ⟨k, hk, rfl, hr1, hr2, hK⟩ := hrel
    by_cases hlt : k < 8192
    · have i1 : (k : Int) < 8192 := by omega
      have ck := Rw.cell hr1 k hlt
      rw [mixR_self] at ck
      have dk := Rw.cell hr2 k hlt
      have zk := Rw.free hr1 k
      have hl1 := Rw.lt hr1
      have hl2 := Rw.lt hr2
      have hset := fun u hu => mixR_set hr1 hlt u hu
      have hoth := fun u : Value => Rw.other hr2 (p := ⟨w.heap.size, k, none⟩) (by show g2 ≠ w.heap.size; omega) u
      have hks := fun u : Value => hK.setCell (p := ⟨w.heap.size, k, none⟩) (Or.inr (Nat.le_refl _)) u
      have hfk : fh k = (fa k && !fb k) := by rw [← HFH.out]
      have HLT := Lib.hid hlt
      have HSET := Lib.hid hset
      have HOTH := Lib.hid hoth
      have HKS := Lib.hid hks
      have HFK := Lib.hid hfk
      clear hset hoth hks hr1 hr2 hfk
      generalize hfak : fa k = x at *
      generalize hfbk : fb k = y at *
      clear hfak hfbk
      cases x <;> cases y
      all_goals
        go_wp2_with fail
        go_roundw
        case rel => exact ⟨k + 1, HLT.out, by go_num, HSET.out _ (by rw [HFK.out]; rfl), HOTH.out _, HKS.out _⟩
        case measure => (have hh := HLT.out; simp [intOf]; omega)
    · obtain rfl : k = 8192 := by omega
      have hr3 := HRU.out _ _ (RowAt.congr hr1 (fun m hm => mixR_end fa fh m hm))
      have HR3 := Lib.hid hr3
      clear hr1 hr2 hr3
      go_wp2_with fail
      refine HR3.out.mono ?_; rintro e w3 ⟨v3, rfl, r3, k3⟩
      have hkk := hK.trans k3
      have hro := ownsRow_base r3 hK.size
      have HRO := Lib.hid hro
      obtain ⟨p3, c3, rfl⟩ := own_shape r3
      clear r3 hro
      go_wp2_with fail
      go_ret
      exact ⟨_, rfl, HRO.out, hkk⟩
set_option maxRecDepth 100000 in
set_option maxHeartbeats 2000000 in
theorem zcommon (va : Value) (la : List (Int × Int)) (loa hia : Nat) (vb : Value) (lb : List (Int × Int)) (lob hib : Nat) (w : World) (ha : RunsIn w va la loa hia) (hb : RunsIn w vb lb lob hib) (hla : la.length ≤ 1000000) (hlb : lb.length ≤ 1000000) (hwa : ∀ a ∈ la, WfRun a) (hwb : ∀ a ∈ lb, WfRun a) :
    Calls Try.prog 20 #[va, vb] w (GivesR (commonL la lb) w) := by
  have hp := zrow va la loa hia w ha hla hwa
  have hq := fun W (hk : Kept [] w W) => zrow vb lb lob hib W (hb.kept0 hk) hlb hwb
  have hru := fun g W (hg : RowAt W g (fun m => hasB la m && hasB lb m)) => zruns g _ W hg
  have eL : canon (fun m => hasB la m && hasB lb m) = commonL la lb := rfl
  rw [eL] at hru
  unfold GivesR at *
  obtain ⟨pa, ca, rfl⟩ := ha.shape
  obtain ⟨pb, cb, rfl⟩ := hb.shape
  have HP := Lib.hid hp
  have HQ := Lib.hid hq
  have HRU := Lib.hid hru
  clear hp hq hru ha hb hwa hwb eL hla hlb
  generalize commonL la lb = L at *
  generalize hasB la = fa at *
  generalize hasB lb = fb at *
  generalize la.length = na at *
  generalize lb.length = nb at *
  obtain ⟨fh, hfh⟩ : ∃ fh : Nat → Bool, (fun m => fa m && fb m) = fh := ⟨_, rfl⟩
  have HFH := Lib.hid hfh
  rw [hfh] at HRU
  clear hfh
  go_enter Try.func20, Try.ntmps20
  go_wp2_with fail
  refine HP.out.mono ?_; rintro e w1 ⟨rfl, r1, k1⟩
  have hg1 := Rw.lt r1
  have R1 := Lib.hid r1
  clear r1
  go_wp2_with fail
  refine (HQ.out _ k1).mono ?_; rintro e w2 ⟨rfl, r2, k2⟩
  have R1' := Lib.hid (RowAt.congr (f' := mixR fa fh 0) (Rw.kept R1.out k2 (fun h => by cases h)) (fun m _ => (mixR_zero fa fh m).symm))
  have R2 := Lib.hid r2
  have hk2 := k1.trans k2
  have hs1 := k1.size
  obtain ⟨g2, hg2⟩ : ∃ g2, w1.heap.size = g2 := ⟨_, rfl⟩
  rw [hg2] at R2 hg1 ⊢
  clear r2 hg2 R1
  go_wp2_with fail
  go_loopw [7] (fun i wr => ∃ k : Nat, k ≤ 8192 ∧ i = .int .i64 k ∧ RowAt wr w.heap.size (mixR fa fh k) ∧ RowAt wr g2 fb ∧ Kept [] w wr) (fun i _ => 8192 - (intOf i).toNat)
  case atStart => exact ⟨0, by omega, rfl, R1'.out, R2.out, hk2⟩
  case round =>
    obtain ⟨k, hk, rfl, hr1, hr2, hK⟩ := hrel
    by_cases hlt : k < 8192
    · have i1 : (k : Int) < 8192 := by omega
      have ck := Rw.cell hr1 k hlt
      rw [mixR_self] at ck
      have dk := Rw.cell hr2 k hlt
      have zk := Rw.free hr1 k
      have hl1 := Rw.lt hr1
      have hl2 := Rw.lt hr2
      have hset := fun u hu => mixR_set hr1 hlt u hu
      have hoth := fun u : Value => Rw.other hr2 (p := ⟨w.heap.size, k, none⟩) (by show g2 ≠ w.heap.size; omega) u
      have hks := fun u : Value => hK.setCell (p := ⟨w.heap.size, k, none⟩) (Or.inr (Nat.le_refl _)) u
      have hfk : fh k = (fa k && fb k) := by rw [← HFH.out]
      have HLT := Lib.hid hlt
      have HSET := Lib.hid hset
      have HOTH := Lib.hid hoth
      have HKS := Lib.hid hks
      have HFK := Lib.hid hfk
      clear hset hoth hks hr1 hr2 hfk
      generalize hfak : fa k = x at *
      generalize hfbk : fb k = y at *
      clear hfak hfbk
      cases x <;> cases y
      all_goals
        go_wp2_with fail
        go_roundw
        case rel => exact ⟨k + 1, HLT.out, by go_num, HSET.out _ (by rw [HFK.out]; rfl), HOTH.out _, HKS.out _⟩
        case measure => (have hh := HLT.out; simp [intOf]; omega)
    · obtain rfl : k = 8192 := by omega
      have hr3 := HRU.out _ _ (RowAt.congr hr1 (fun m hm => mixR_end fa fh m hm))
      have HR3 := Lib.hid hr3
      clear hr1 hr2 hr3
      go_wp2_with fail
      refine HR3.out.mono ?_; rintro e w3 ⟨v3, rfl, r3, k3⟩
      have hkk := hK.trans k3
      have hro := ownsRow_base r3 hK.size
      have HRO := Lib.hid hro
      obtain ⟨p3, c3, rfl⟩ := own_shape r3
      clear r3 hro
      go_wp2_with fail
      go_ret
      exact ⟨_, rfl, HRO.out, hkk⟩
theorem cntF_le (f : Nat → Bool) (k : Nat) : cntF f k ≤ k := by
  induction k with
  | zero => exact Nat.le_refl _
  | succ k ih => rw [cntF]; split <;> omega
set_option maxRecDepth 100000 in
set_option maxHeartbeats 2000000 in
theorem zcount (v : Value) (l : List (Int × Int)) (lo hi : Nat) (w : World) (h : RunsIn w v l lo hi) (hl : l.length ≤ 1000000) (hwf : ∀ a ∈ l, WfRun a) :
    Calls Try.prog 24 #[v] w fun e w' => e = .returned (.int .i64 (countL l)) ∧ Kept [] w w' := by
  have hp := zrow v l lo hi w h hl hwf
  obtain ⟨p, c, rfl⟩ := h.shape
  clear h hwf
  have HP := Lib.hid hp
  clear hp
  unfold countL
  generalize hasB l = f at *
  generalize l.length = ll at *
  go_enter Try.func24, Try.ntmps24
  go_wp2_with fail
  refine HP.out.mono ?_; rintro e w1 ⟨rfl, r1, k1⟩
  have R1 := Lib.hid r1
  clear r1
  go_wp2_with fail
  go_loopw [4, 5] (fun n i wr => ∃ k : Nat, k ≤ 8192 ∧ i = .int .i64 k ∧ n = .int .i64 (cntF f k) ∧ RowAt wr w.heap.size f ∧ Kept [] w wr) (fun _ i _ => 8192 - (intOf i).toNat)
  case atStart => exact ⟨0, by omega, rfl, rfl, R1.out, k1⟩
  case round =>
    obtain ⟨k, hk, rfl, rfl, hr1, hK⟩ := hrel
    by_cases hlt : k < 8192
    · have i1 : (k : Int) < 8192 := by omega
      have ck := Rw.cell hr1 k hlt
      have hcs : cntF f (k + 1) = cntF f k + if f k = true then 1 else 0 := rfl
      have hle := cntF_le f k
      have HLT := Lib.hid hlt
      have HR1 := Lib.hid hr1
      have HCS := Lib.hid hcs
      clear hr1 hcs
      generalize hfk : f k = x at *
      clear hfk
      generalize cntF f k = ct at *
      cases x
      · go_wp2_with fail
        go_roundw
        case rel => exact ⟨k + 1, HLT.out, by go_num, by rw [HCS.out]; simp, HR1.out, hK⟩
        case measure => (have hh := HLT.out; simp [intOf]; omega)
      · go_wp2_with fail
        go_roundw
        case rel => exact ⟨k + 1, HLT.out, by go_num, by rw [HCS.out, if_pos rfl]; go_num, HR1.out, hK⟩
        case measure => (have hh := HLT.out; simp [intOf]; omega)
    · obtain rfl : k = 8192 := by omega
      clear hr1
      go_wp2_with fail
      go_ret
      exact ⟨rfl, hK⟩
end Go.Proofs.Ytmljbmhalpdpmaa
