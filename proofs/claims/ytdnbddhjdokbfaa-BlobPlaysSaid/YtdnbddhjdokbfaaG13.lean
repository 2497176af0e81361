/- Layer 10 (extent): the reference's Minus, Common, Count. -/
import Derived.Test.YtdnbddhjdokbfaaG04
import Derived.Test.YtdnbddhjdokbfaaG12
namespace Go.Proofs.Ytdnbddhjdokbfaa
open Go.RowKit
set_option linter.unusedVariables false
set_option linter.unusedSimpArgs false

/-- the row behind k sectors: those as said, and the others as they were. -/
def mixR (f h : Nat → Bool) (k m : Nat) : Bool := if m < k then h m else f m
theorem mixR_zero (f h : Nat → Bool) (m : Nat) : mixR f h 0 m = f m := by unfold mixR; rw [if_neg (by omega)]
theorem mixR_self (f h : Nat → Bool) (k : Nat) : mixR f h k k = f k := by unfold mixR; rw [if_neg (by omega)]
theorem mixR_next (f h : Nat → Bool) (k m : Nat) (e : m ≠ k) : mixR f h (k + 1) m = mixR f h k m := by
  unfold mixR
  by_cases e2 : m < k
  · rw [if_pos e2, if_pos (by omega)]
  · rw [if_neg e2, if_neg (by omega)]
theorem mixR_at (f h : Nat → Bool) (k : Nat) : mixR f h (k + 1) k = h k := by unfold mixR; rw [if_pos (by omega)]
theorem mixR_end (f h : Nat → Bool) (m : Nat) (e : m < 8192) : mixR f h 8192 m = h m := by unfold mixR; rw [if_pos e]
theorem mixR_set {w : World} {g : Nat} {f h : Nat → Bool} {k : Nat} (hr : RowAt w g (mixR f h k)) (hk : k < 8192) (u : Bool) (hu : u = h k) : RowAt (w.setCell ⟨g, k, none⟩ (.bool u)) g (mixR f h (k + 1)) :=
  Rw.set hr k hk (.bool u) _ (by rw [mixR_at, hu]) (fun m _ hm => by rw [mixR_next f h k m hm])
set_option maxRecDepth 100000 in
set_option maxHeartbeats 2000000 in
theorem zcommon (va : Value) (la : List (Int × Int)) (loa hia : Nat) (vb : Value) (lb : List (Int × Int)) (lob hib : Nat) (w : World) (ha : RunsIn w va la loa hia) (hb : RunsIn w vb lb lob hib) (hla : la.length ≤ 1000000) (hlb : lb.length ≤ 1000000) (hwa : ∀ a ∈ la, WfRun a) (hwb : ∀ a ∈ lb, WfRun a) :
    Calls Try.prog 77 #[va, vb] w (GivesR (commonL la lb) w) := by
  have hp := zrow va la loa hia w ha hla hwa
  have hq := fun W (hk : Kept [] w W) => zrow vb lb lob hib W (hb.kept0 hk) hlb hwb
  have hru := fun g W (hg : RowAt W g (fun m => hasB la m && hasB lb m)) => zruns g _ W hg
  have eL : canon (fun m => hasB la m && hasB lb m) = commonL la lb := rfl
  rw [eL] at hru
  unfold GivesR at *
  obtain ⟨pa, ca, rfl⟩ := ha.shape
  obtain ⟨pb, cb, rfl⟩ := hb.shape
  have HP := Lib.hid hp
  have HQ := Lib.hid hq
  have HRU := Lib.hid hru
  clear hp hq hru ha hb hwa hwb eL hla hlb
  generalize commonL la lb = L at *
  generalize hasB la = fa at *
  generalize hasB lb = fb at *
  generalize la.length = na at *
  generalize lb.length = nb at *
  obtain ⟨fh, hfh⟩ : ∃ fh : Nat → Bool, (fun m => fa m && fb m) = fh := ⟨_, rfl⟩
  have HFH := Lib.hid hfh
  rw [hfh] at HRU
  clear hfh
  go_enter Try.func77, Try.ntmps77
  go_wp2_with fail
  refine HP.out.mono ?_; rintro e w1 ⟨rfl, r1, k1⟩
  have hg1 := Rw.lt r1
  have R1 := Lib.hid r1
  clear r1
  go_wp2_with fail
  refine (HQ.out _ k1).mono ?_; rintro e w2 ⟨rfl, r2, k2⟩
  have R1' := Lib.hid (RowAt.congr (f' := mixR fa fh 0) (Rw.kept R1.out k2 (fun h => by cases h)) (fun m _ => (mixR_zero fa fh m).symm))
  have R2 := Lib.hid r2
  have hk2 := k1.trans k2
  have hs1 := k1.size
  obtain ⟨g2, hg2⟩ : ∃ g2, w1.heap.size = g2 := ⟨_, rfl⟩
  rw [hg2] at R2 hg1 ⊢
  clear r2 hg2 R1
  go_wp2_with fail
  go_loopw [7] (fun i wr => ∃ k : Nat, k ≤ 8192 ∧ i = .int .i64 k ∧ RowAt wr w.heap.size (mixR fa fh k) ∧ RowAt wr g2 fb ∧ Kept [] w wr) (fun i _ => 8192 - (intOf i).toNat)
  case atStart => exact ⟨0, by omega, rfl, R1'.out, R2.out, hk2⟩
  case round =>
    obtain ⟨k, hk, rfl, hr1, hr2, hK⟩ := hrel
    by_cases hlt : k < 8192
    · have i1 : (k : Int) < 8192 := by omega
      have ck := Rw.cell hr1 k hlt
      rw [mixR_self] at ck
      have dk := Rw.cell hr2 k hlt
      have zk := Rw.free hr1 k
      have hl1 := Rw.lt hr1
      have hl2 := Rw.lt hr2
      have hset := fun u hu => mixR_set hr1 hlt u hu
      have hoth := fun u : Value => Rw.other hr2 (p := ⟨w.heap.size, k, none⟩) (by show g2 ≠ w.heap.size; omega) u
      have hks := fun u : Value => hK.setCell (p := ⟨w.heap.size, k, none⟩) (Or.inr (Nat.le_refl _)) u
      have hfk : fh k = (fa k && fb k) := by rw [← HFH.out]
      have HLT := Lib.hid hlt
      have HSET := Lib.hid hset
      have HOTH := Lib.hid hoth
      have HKS := Lib.hid hks
      have HFK := Lib.hid hfk
      clear hset hoth hks hr1 hr2 hfk
      generalize hfak : fa k = x at *
      generalize hfbk : fb k = y at *
      clear hfak hfbk
      cases x <;> cases y
      all_goals
        go_wp2_with fail
        go_roundw
        case rel => exact ⟨k + 1, HLT.out, by go_num, HSET.out _ (by rw [HFK.out]; rfl), HOTH.out _, HKS.out _⟩
        case measure => (have hh := HLT.out; simp [intOf]; omega)
    · obtain rfl : k = 8192 := by omega
      have hr3 := HRU.out _ _ (RowAt.congr hr1 (fun m hm => mixR_end fa fh m hm))
      have HR3 := Lib.hid hr3
      clear hr1 hr2 hr3
      go_wp2_with fail
      refine HR3.out.mono ?_; rintro e w3 ⟨v3, rfl, r3, k3⟩
      have hkk := hK.trans k3
      have hro := ownsRow_base r3 hK.size
      have HRO := Lib.hid hro
      obtain ⟨p3, c3, rfl⟩ := own_shape r3
      clear r3 hro
      go_wp2_with fail
      go_ret
      exact ⟨_, rfl, HRO.out, hkk⟩
theorem cntF_le (f : Nat → Bool) (k : Nat) : cntF f k ≤ k := by
  induction k with
  | zero => exact Nat.le_refl _
  | succ k ih => rw [cntF]; split <;> omega
set_option maxRecDepth 100000 in
set_option maxHeartbeats 2000000 in
theorem zcount (v : Value) (l : List (Int × Int)) (lo hi : Nat) (w : World) (h : RunsIn w v l lo hi) (hl : l.length ≤ 1000000) (hwf : ∀ a ∈ l, WfRun a) :
    Calls Try.prog 34 #[v] w fun e w' => e = .returned (.int .i64 (countL l)) ∧ Kept [] w w' := by
  have hp := zrow v l lo hi w h hl hwf
  obtain ⟨p, c, rfl⟩ := h.shape
  clear h hwf
  have HP := Lib.hid hp
  clear hp
  unfold countL
  generalize hasB l = f at *
  generalize l.length = ll at *
  go_enter Try.func34, Try.ntmps34
  go_wp2_with fail
  refine HP.out.mono ?_; rintro e w1 ⟨rfl, r1, k1⟩
  have R1 := Lib.hid r1
  clear r1
  go_wp2_with fail
  go_loopw [4, 5] (fun n i wr => ∃ k : Nat, k ≤ 8192 ∧ i = .int .i64 k ∧ n = .int .i64 (cntF f k) ∧ RowAt wr w.heap.size f ∧ Kept [] w wr) (fun _ i _ => 8192 - (intOf i).toNat)
  case atStart => exact ⟨0, by omega, rfl, rfl, R1.out, k1⟩
  case round =>
    obtain ⟨k, hk, rfl, rfl, hr1, hK⟩ := hrel
    by_cases hlt : k < 8192
    · have i1 : (k : Int) < 8192 := by omega
      have ck := Rw.cell hr1 k hlt
      have hcs : cntF f (k + 1) = cntF f k + if f k = true then 1 else 0 := rfl
      have hle := cntF_le f k
      have HLT := Lib.hid hlt
      have HR1 := Lib.hid hr1
      have HCS := Lib.hid hcs
      clear hr1 hcs
      generalize hfk : f k = x at *
      clear hfk
      generalize cntF f k = ct at *
      cases x
      · go_wp2_with fail
        go_roundw
        case rel => exact ⟨k + 1, HLT.out, by go_num, by rw [HCS.out]; simp, HR1.out, hK⟩
        case measure => (have hh := HLT.out; simp [intOf]; omega)
      · go_wp2_with fail
        go_roundw
        case rel => exact ⟨k + 1, HLT.out, by go_num, by rw [HCS.out, if_pos rfl]; go_num, HR1.out, hK⟩
        case measure => (have hh := HLT.out; simp [intOf]; omega)
    · obtain rfl : k = 8192 := by omega
      clear hr1
      go_wp2_with fail
      go_ret
      exact ⟨rfl, hK⟩
end Go.Proofs.Ytdnbddhjdokbfaa

/- Layer 10 (extent): ExtentSets's walk. -/
namespace Go.Proofs.Ytdnbddhjdokbfaa
open Go.RowKit
set_option linter.unusedVariables false
set_option linter.unusedSimpArgs false

theorem sets_join (a b : List (Int × Int)) : joinL (minusL a b) (commonL a b) = plainL a :=
  canon_congr (fun m hm => by unfold minusL commonL; rw [canon_has _ m hm, canon_has _ m hm]; cases hasB a m <;> cases hasB b m <;> rfl)
theorem sets_none (a b : List (Int × Int)) : commonL (minusL a b) (commonL a b) = [] :=
  canon_none (fun m hm => by unfold minusL commonL; rw [canon_has _ m hm, canon_has _ m hm]; cases hasB a m <;> cases hasB b m <;> rfl)
theorem sets_self (a : List (Int × Int)) : joinL a a = plainL a := canon_congr (fun m hm => by cases hasB a m <;> rfl)
theorem cnt_part (f g : Nat → Bool) (k : Nat) : cntF (fun m => f m && !g m) k + cntF (fun m => f m && g m) k = cntF f k := by
  induction k with
  | zero => rfl
  | succ k ih =>
    rw [cntF, cntF, cntF]
    cases f k <;> cases g k <;> simp <;> omega
theorem sets_count (a b : List (Int × Int)) : countL (minusL a b) + countL (commonL a b) = countL a := by
  unfold minusL commonL
  rw [count_canon, count_canon]
  exact cnt_part _ _ _
theorem GivesR.out {p : List (Int × Int)} {w w' : World} {e : Ending} (h : GivesR p w e w') : ∃ v, e = .returned v ∧ RunsIn w' v p w.heap.size w'.heap.size ∧ Kept [] w w' := h.runs
theorem len_pl {f : Nat → Bool} : (canon f).length ≤ 8192 := by have := (canon_pl f).len0; omega
theorem wf_canon (f : Nat → Bool) : ∀ x ∈ canon f, WfRun x := pl_wf (Int.le_refl _) (canon_pl f)
end Go.Proofs.Ytdnbddhjdokbfaa

/- Blocks of six cells, cell by cell. -/
namespace Go.Proofs.Ytdnbddhjdokbfaa
open Go.RowKit
set_option linter.unusedVariables false
set_option linter.unusedSimpArgs false

theorem Own.c6 {w : World} {b : Nat} {x0 x1 x2 x3 x4 x5 : Value} {t : TypeId} (h : Own w b #[x0, x1, x2, x3, x4, x5] t) : w.cell? ⟨b, 0, none⟩ = some x0 ∧ w.cell? ⟨b, 1, none⟩ = some x1 ∧ w.cell? ⟨b, 2, none⟩ = some x2 ∧ w.cell? ⟨b, 3, none⟩ = some x3 ∧ w.cell? ⟨b, 4, none⟩ = some x4 ∧ w.cell? ⟨b, 5, none⟩ = some x5 :=
  ⟨h.cell 0 (by simp), h.cell 1 (by simp), h.cell 2 (by simp), h.cell 3 (by simp), h.cell 4 (by simp), h.cell 5 (by simp)⟩
theorem Own.z6 {w : World} {b : Nat} {x0 x1 x2 x3 x4 x5 : Value} {t : TypeId} (h : Own w b #[x0, x1, x2, x3, x4, x5] t) : w.frozen? ⟨b, 0, none⟩ = false ∧ w.frozen? ⟨b, 1, none⟩ = false ∧ w.frozen? ⟨b, 2, none⟩ = false ∧ w.frozen? ⟨b, 3, none⟩ = false ∧ w.frozen? ⟨b, 4, none⟩ = false ∧ w.frozen? ⟨b, 5, none⟩ = false :=
  ⟨h.free 0, h.free 1, h.free 2, h.free 3, h.free 4, h.free 5⟩
theorem own_eight (w : World) (A0 A1 A2 A3 A4 A5 A6 A7 : Array Value) (t0 t1 t2 t3 t4 t5 t6 t7 : TypeId) : Own ((((((((w.alloc (.cells A0 t0)).alloc (.cells A1 t1)).alloc (.cells A2 t2)).alloc (.cells A3 t3)).alloc (.cells A4 t4)).alloc (.cells A5 t5)).alloc (.cells A6 t6)).alloc (.cells A7 t7)) w.heap.size A0 t0 ∧ Own ((((((((w.alloc (.cells A0 t0)).alloc (.cells A1 t1)).alloc (.cells A2 t2)).alloc (.cells A3 t3)).alloc (.cells A4 t4)).alloc (.cells A5 t5)).alloc (.cells A6 t6)).alloc (.cells A7 t7)) (w.heap.size + 1) A1 t1 ∧ Own ((((((((w.alloc (.cells A0 t0)).alloc (.cells A1 t1)).alloc (.cells A2 t2)).alloc (.cells A3 t3)).alloc (.cells A4 t4)).alloc (.cells A5 t5)).alloc (.cells A6 t6)).alloc (.cells A7 t7)) (w.heap.size + 1 + 1) A2 t2 ∧ Own ((((((((w.alloc (.cells A0 t0)).alloc (.cells A1 t1)).alloc (.cells A2 t2)).alloc (.cells A3 t3)).alloc (.cells A4 t4)).alloc (.cells A5 t5)).alloc (.cells A6 t6)).alloc (.cells A7 t7)) (w.heap.size + 1 + 1 + 1) A3 t3 ∧ Own ((((((((w.alloc (.cells A0 t0)).alloc (.cells A1 t1)).alloc (.cells A2 t2)).alloc (.cells A3 t3)).alloc (.cells A4 t4)).alloc (.cells A5 t5)).alloc (.cells A6 t6)).alloc (.cells A7 t7)) (w.heap.size + 1 + 1 + 1 + 1) A4 t4 ∧ Own ((((((((w.alloc (.cells A0 t0)).alloc (.cells A1 t1)).alloc (.cells A2 t2)).alloc (.cells A3 t3)).alloc (.cells A4 t4)).alloc (.cells A5 t5)).alloc (.cells A6 t6)).alloc (.cells A7 t7)) (w.heap.size + 1 + 1 + 1 + 1 + 1) A5 t5 ∧ Own ((((((((w.alloc (.cells A0 t0)).alloc (.cells A1 t1)).alloc (.cells A2 t2)).alloc (.cells A3 t3)).alloc (.cells A4 t4)).alloc (.cells A5 t5)).alloc (.cells A6 t6)).alloc (.cells A7 t7)) (w.heap.size + 1 + 1 + 1 + 1 + 1 + 1) A6 t6 ∧ Own ((((((((w.alloc (.cells A0 t0)).alloc (.cells A1 t1)).alloc (.cells A2 t2)).alloc (.cells A3 t3)).alloc (.cells A4 t4)).alloc (.cells A5 t5)).alloc (.cells A6 t6)).alloc (.cells A7 t7)) (w.heap.size + 1 + 1 + 1 + 1 + 1 + 1 + 1) A7 t7 := by
  have h0 : Own (w.alloc (.cells A0 t0)) w.heap.size A0 t0 := by have := Own.new w A0 t0; simpa only [World.size_alloc] using this
  have h1 : Own ((w.alloc (.cells A0 t0)).alloc (.cells A1 t1)) (w.heap.size + 1) A1 t1 := by have := Own.new (w.alloc (.cells A0 t0)) A1 t1; simpa only [World.size_alloc] using this
  have h2 : Own (((w.alloc (.cells A0 t0)).alloc (.cells A1 t1)).alloc (.cells A2 t2)) (w.heap.size + 1 + 1) A2 t2 := by have := Own.new ((w.alloc (.cells A0 t0)).alloc (.cells A1 t1)) A2 t2; simpa only [World.size_alloc] using this
  have h3 : Own ((((w.alloc (.cells A0 t0)).alloc (.cells A1 t1)).alloc (.cells A2 t2)).alloc (.cells A3 t3)) (w.heap.size + 1 + 1 + 1) A3 t3 := by have := Own.new (((w.alloc (.cells A0 t0)).alloc (.cells A1 t1)).alloc (.cells A2 t2)) A3 t3; simpa only [World.size_alloc] using this
  have h4 : Own (((((w.alloc (.cells A0 t0)).alloc (.cells A1 t1)).alloc (.cells A2 t2)).alloc (.cells A3 t3)).alloc (.cells A4 t4)) (w.heap.size + 1 + 1 + 1 + 1) A4 t4 := by have := Own.new ((((w.alloc (.cells A0 t0)).alloc (.cells A1 t1)).alloc (.cells A2 t2)).alloc (.cells A3 t3)) A4 t4; simpa only [World.size_alloc] using this
  have h5 : Own ((((((w.alloc (.cells A0 t0)).alloc (.cells A1 t1)).alloc (.cells A2 t2)).alloc (.cells A3 t3)).alloc (.cells A4 t4)).alloc (.cells A5 t5)) (w.heap.size + 1 + 1 + 1 + 1 + 1) A5 t5 := by have := Own.new (((((w.alloc (.cells A0 t0)).alloc (.cells A1 t1)).alloc (.cells A2 t2)).alloc (.cells A3 t3)).alloc (.cells A4 t4)) A5 t5; simpa only [World.size_alloc] using this
  have h6 : Own (((((((w.alloc (.cells A0 t0)).alloc (.cells A1 t1)).alloc (.cells A2 t2)).alloc (.cells A3 t3)).alloc (.cells A4 t4)).alloc (.cells A5 t5)).alloc (.cells A6 t6)) (w.heap.size + 1 + 1 + 1 + 1 + 1 + 1) A6 t6 := by have := Own.new ((((((w.alloc (.cells A0 t0)).alloc (.cells A1 t1)).alloc (.cells A2 t2)).alloc (.cells A3 t3)).alloc (.cells A4 t4)).alloc (.cells A5 t5)) A6 t6; simpa only [World.size_alloc] using this
  have h7 : Own ((((((((w.alloc (.cells A0 t0)).alloc (.cells A1 t1)).alloc (.cells A2 t2)).alloc (.cells A3 t3)).alloc (.cells A4 t4)).alloc (.cells A5 t5)).alloc (.cells A6 t6)).alloc (.cells A7 t7)) (w.heap.size + 1 + 1 + 1 + 1 + 1 + 1 + 1) A7 t7 := by have := Own.new (((((((w.alloc (.cells A0 t0)).alloc (.cells A1 t1)).alloc (.cells A2 t2)).alloc (.cells A3 t3)).alloc (.cells A4 t4)).alloc (.cells A5 t5)).alloc (.cells A6 t6)) A7 t7; simpa only [World.size_alloc] using this
  exact ⟨(((((((h0.alloc _).alloc _).alloc _).alloc _).alloc _).alloc _).alloc _), ((((((h1.alloc _).alloc _).alloc _).alloc _).alloc _).alloc _), (((((h2.alloc _).alloc _).alloc _).alloc _).alloc _), ((((h3.alloc _).alloc _).alloc _).alloc _), (((h4.alloc _).alloc _).alloc _), ((h5.alloc _).alloc _), (h6.alloc _), h7⟩
/-- all six cells of a block, written in turn. -/
theorem Own.set6 {w : World} {b : Nat} {x0 x1 x2 x3 x4 x5 : Value} {t : TypeId} (h : Own w b #[x0, x1, x2, x3, x4, x5] t) (y0 y1 y2 y3 y4 y5 : Value) :
    Own ((((((w.setCell ⟨b, 0, none⟩ y0).setCell ⟨b, 1, none⟩ y1).setCell ⟨b, 2, none⟩ y2).setCell ⟨b, 3, none⟩ y3).setCell ⟨b, 4, none⟩ y4).setCell ⟨b, 5, none⟩ y5) b #[y0, y1, y2, y3, y4, y5] t := by
  have := ((((((h.set 0 y0).set 1 y1).set 2 y2).set 3 y3).set 4 y4).set 5 y5)
  simpa using this
theorem Kept.set6 {S : List Nat} {a w : World} {b : Nat} (h : Kept S a w) (hp : b ∈ S ∨ a.heap.size ≤ b) (y0 y1 y2 y3 y4 y5 : Value) : Kept S a ((((((w.setCell ⟨b, 0, none⟩ y0).setCell ⟨b, 1, none⟩ y1).setCell ⟨b, 2, none⟩ y2).setCell ⟨b, 3, none⟩ y3).setCell ⟨b, 4, none⟩ y4).setCell ⟨b, 5, none⟩ y5) :=
  (((((h.setCell (p := ⟨b, 0, none⟩) hp _).setCell (p := ⟨b, 1, none⟩) hp _).setCell (p := ⟨b, 2, none⟩) hp _).setCell (p := ⟨b, 3, none⟩) hp _).setCell (p := ⟨b, 4, none⟩) hp _).setCell (p := ⟨b, 5, none⟩) hp _
theorem Own.other6 {w : World} {b g : Nat} {cs : Array Value} {t : TypeId} (h : Own w g cs t) (hp : g ≠ b) (y0 y1 y2 y3 y4 y5 : Value) : Own ((((((w.setCell ⟨b, 0, none⟩ y0).setCell ⟨b, 1, none⟩ y1).setCell ⟨b, 2, none⟩ y2).setCell ⟨b, 3, none⟩ y3).setCell ⟨b, 4, none⟩ y4).setCell ⟨b, 5, none⟩ y5) g cs t :=
  (((((h.other (p := ⟨b, 0, none⟩) hp _).other (p := ⟨b, 1, none⟩) hp _).other (p := ⟨b, 2, none⟩) hp _).other (p := ⟨b, 3, none⟩) hp _).other (p := ⟨b, 4, none⟩) hp _).other (p := ⟨b, 5, none⟩) hp _
end Go.Proofs.Ytdnbddhjdokbfaa

/- Layer 10 (extent): whether a list may be: plain laws, and the reference's over. -/
namespace Go.Proofs.Ytdnbddhjdokbfaa
open Go.RowKit
set_option linter.unusedVariables false
set_option linter.unusedSimpArgs false

def OkX (f s : Int) (a : Int × Int) : Prop := f ≤ a.1 ∧ 1 ≤ a.2 ∧ a.1 < s ∧ a.1 + a.2 ≤ s
def ApartX (a b : Int × Int) : Prop := a.1 + a.2 ≤ b.1 ∨ b.1 + b.2 ≤ a.1
theorem ApartX.symm {a b : Int × Int} (h : ApartX a b) : ApartX b a := Or.symm h
/-- may a list be? -/
def MayX (f s : Int) (l : List (Int × Int)) : Prop := (∀ a ∈ l, OkX f s a) ∧ l.Pairwise ApartX
theorem mayX_perm {f s : Int} {l l' : List (Int × Int)} (h : l'.Perm l) : MayX f s l' ↔ MayX f s l := by
  unfold MayX
  rw [List.Perm.pairwise_iff (fun h => ApartX.symm h) h]
  constructor
  · rintro ⟨h1, h2⟩; exact ⟨fun a ha => h1 a (h.mem_iff.2 ha), h2⟩
  · rintro ⟨h1, h2⟩; exact ⟨fun a ha => h1 a (h.mem_iff.1 ha), h2⟩
theorem mayX_take {f s : Int} {l : List (Int × Int)} (k : Nat) (h : MayX f s l) : MayX f s (l.take k) :=
  ⟨fun a ha => h.1 a (List.mem_of_mem_take ha), h.2.sublist (List.take_sublist k l)⟩
theorem mayX_succ {f s : Int} {l : List (Int × Int)} {k : Nat} (hk : k < l.length) (h : MayX f s (l.take k)) (h1 : OkX f s l[k]) (h2 : ∀ j (hj : j < k), ApartX l[k] (l[j]'(by omega))) : MayX f s (l.take (k + 1)) := by
  rw [List.take_succ_eq_append_getElem hk]
  refine ⟨fun a ha => ?_, ?_⟩
  · rcases List.mem_append.1 ha with ha | ha
    · exact h.1 a ha
    · obtain rfl : a = l[k] := by simpa using ha
      exact h1
  · rw [List.pairwise_append]
    refine ⟨h.2, List.pairwise_singleton _ _, fun a ha b hb => ?_⟩
    obtain rfl : b = l[k] := by simpa using hb
    rw [List.mem_take_iff_getElem] at ha
    obtain ⟨j, hj, rfl⟩ := ha
    exact (h2 j (by omega)).symm
theorem mayX_no1 {f s : Int} {l : List (Int × Int)} {k : Nat} (hk : k < l.length) (h : ¬ OkX f s l[k]) : ¬ MayX f s l := fun hm => h (hm.1 _ (List.getElem_mem hk))
theorem mayX_no2 {f s : Int} {l : List (Int × Int)} {k j : Nat} (hk : k < l.length) (hj : j < k) (h : ¬ ApartX l[k] (l[j]'(by omega))) : ¬ MayX f s l := fun hm => h ((List.pairwise_iff_getElem.1 hm.2 j k (by omega) hk hj).symm)
theorem mayX_nil (f s : Int) : MayX f s [] := ⟨fun a ha => (by cases ha), List.Pairwise.nil⟩
set_option maxRecDepth 100000 in
set_option maxHeartbeats 2000000 in
theorem zover (a1 a2 b1 b2 : Int) (w : World) (wa : WfRun (a1, a2)) (wb : WfRun (b1, b2)) (ha : 1 ≤ a2) :
    Calls Try.prog 58 #[.agg #[.int .i64 a1, .int .i64 a2], .agg #[.int .i64 b1, .int .i64 b2]] w fun e w' => e = .returned (.bool (decide (a1 ≤ b1 ∧ b1 < a1 + a2))) ∧ (w.alloc (.cells #[.int .i64 a1, .int .i64 a2] 66)).alloc (.cells #[.int .i64 b1, .int .i64 b2] 66) = w' := by
  obtain ⟨w1, w2, w3, w4⟩ := wa
  obtain ⟨w5, w6, w7, w8⟩ := wb
  simp only at w1 w2 w3 w4 w5 w6 w7 w8
  rcases (by omega : b1 < a1 ∨ (a1 ≤ b1 ∧ 0 ≤ a1 ∧ b1 - a1 < a2) ∨ (a1 ≤ b1 ∧ 0 ≤ a1 ∧ a2 ≤ b1 - a1) ∨ (a1 ≤ b1 ∧ a1 < 0 ∧ b1 < a1 + a2) ∨ (a1 ≤ b1 ∧ a1 < 0 ∧ a1 + a2 ≤ b1)) with h | ⟨h, h2, h3⟩ | ⟨h, h2, h3⟩ | ⟨h, h2, h3⟩ | ⟨h, h2, h3⟩
  · have e : decide (a1 ≤ b1 ∧ b1 < a1 + a2) = false := decide_eq_false (by omega)
    rw [e]; clear e
    go_enter Try.func58, Try.ntmps58
    go_wp2_with fail
    go_ret
    exact ⟨rfl, rfl⟩
  · have e : decide (a1 ≤ b1 ∧ b1 < a1 + a2) = true := decide_eq_true (by omega)
    rw [e]; clear e
    go_enter Try.func58, Try.ntmps58
    go_wp2_with fail
    go_ret
    exact ⟨rfl, rfl⟩
  · have e : decide (a1 ≤ b1 ∧ b1 < a1 + a2) = false := decide_eq_false (by omega)
    rw [e]; clear e
    go_enter Try.func58, Try.ntmps58
    go_wp2_with fail
    go_ret
    exact ⟨by have e : decide (b1 - a1 < a2) = false := decide_eq_false (by omega)
              rw [← e]; rfl, rfl⟩
  · have e : decide (a1 ≤ b1 ∧ b1 < a1 + a2) = true := decide_eq_true (by omega)
    rw [e]; clear e
    go_enter Try.func58, Try.ntmps58
    go_wp2_with fail
    go_ret
    exact ⟨rfl, rfl⟩
  · have e : decide (a1 ≤ b1 ∧ b1 < a1 + a2) = false := decide_eq_false (by omega)
    rw [e]; clear e
    go_enter Try.func58, Try.ntmps58
    go_wp2_with fail
    go_ret
    exact ⟨by have e : decide (b1 < a1 + a2) = false := decide_eq_false (by omega)
              rw [← e]; rfl, rfl⟩
end Go.Proofs.Ytdnbddhjdokbfaa
