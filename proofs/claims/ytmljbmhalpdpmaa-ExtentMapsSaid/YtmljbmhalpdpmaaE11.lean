/- Walks of layer 10 (extent): the lowest sectors, so many. -/
import Derived.Test.YtmljbmhalpdpmaaE9
import Derived.Test.YtmljbmhalpdpmaaE10
namespace Go.Proofs.Ytmljbmhalpdpmaa
open Go.RowKit
set_option linter.unusedVariables false
set_option linter.unusedSimpArgs false

set_option maxRecDepth 100000 in
set_option maxHeartbeats 4000000 in
theorem xlowest (v : Value) (l : List (Int × Int)) (n : Int) (lo hi : Nat) (w : World) (h : RunsIn w v l lo hi) (hl : l.length ≤ 1000000) (hwf : ∀ a ∈ l, WfRun a) (hn1 : -9223372036854775808 ≤ n) (hn2 : n ≤ 9223372036854775807) :
    Calls Try.prog 10 #[v, .int .i64 n] w (LowSays l n w) := by
  have hp := xplain v l lo hi w h hl hwf
  obtain ⟨p, c, rfl⟩ := h.shape
  by_cases hneg : n < 0
  · obtain ⟨e1, e2⟩ := low_neg (l := l) hneg
    unfold LowSays
    rw [e1, e2]
    clear hp h hwf e1 e2
    go_enter Try.func10, Try.ntmps10
    go_wp2_with fail
    refine bodyPost_ret (v := .tuple #[.slice none 0 0, .int .i64 1]) ?_ ?_ ?_
    · kernel_rfl
    · rfl
    · exact ⟨_, rfl, World.ownsRow_nil _ _ _ _, Kept.refl _ _⟩
  · have hn0 : 0 ≤ n := by omega
    obtain ⟨i0, q0, q1, q2, q3⟩ := infoRun
    have hpl : Pl 0 (plainL l) := canon_pl _
    obtain ⟨hf1, hf2⟩ := low_final l n hn0
    have hfull := low_full (l := l) (n := n) hn0
    have hok2 := low_ok2 (l := l) (n := n) hn0
    have hlen := hpl.len0
    have hll : (lowestL l n).length ≤ 8192 := by
      have : Pl 0 (lowestL l n) := canon_pl _
      have := this.len0
      omega
    unfold GivesR at hp
    unfold LowSays
    have HP := Lib.hid hp
    have HPL := Lib.hid hpl
    have HF1 := Lib.hid hf1
    have HF2 := Lib.hid hf2
    have HFU := Lib.hid hfull
    have HOK := Lib.hid hok2
    clear hp h hwf hpl hf1 hf2 hfull hok2 hl
    generalize plainL l = x at *
    generalize lowestL l n = L at *
    generalize lowCode l n = C at *
    generalize lowRes l n = R at *
    generalize countL l = cn at *
    generalize l.length = ll at *
    go_enter Try.func10, Try.ntmps10
    go_wp2_with fail
    refine HP.out.mono ?_; rintro e w1 ⟨v1, rfl, r1, k1⟩
    obtain ⟨px, cx, rfl⟩ := own_shape r1
    have HX := Lib.hid (RunsIn.of_own r1)
    have hs1 := k1.size
    clear r1
    go_upto_block 0 with fail
    go_cut [1, 6] (fun m o wx => m = .int .i64 (max 0 (n - cn)) ∧ wx.ownsRow w1.heap.size 57 2 o L.length (rcells L) ∧ Kept [] w1 wx)
    case first =>
      go_wp2_with fail
      go_loopw [1, 6, 14] (fun m o i wr => ∃ k : Nat, k ≤ x.length ∧ i = .int .i64 k ∧ m = .int .i64 (lowTo x n k).2 ∧ wr.ownsRow w1.heap.size 57 2 o (lowTo x n k).1.length (rcells (lowTo x n k).1) ∧ Kept [] w1 wr) (fun _ _ i _ => x.length - (intOf i).toNat)
      case atStart => exact ⟨0, by omega, rfl, rfl, World.ownsRow_nil _ _ _ _, Kept.refl _ _⟩
      case round =>
        obtain ⟨k, hk, rfl, rfl, hrow, hK⟩ := hrel
        have hrem := (low_ok HPL.out n hn0 k hk).rem
        have hsum := ((HPL.out.take k).sum (by omega)).1
        have holen := lowTo_len x n k
        have hstop := fun h => lowTo_stop x n k hk h x.length hk (Nat.le_refl _)
        have hstep := fun hlt => lowTo_succ x n k hlt
        obtain ⟨O, m, hOm⟩ : ∃ O m, lowTo x n k = (O, m) := ⟨_, _, rfl⟩
        rw [hOm] at hrow hrem holen hstop hstep ⊢
        unfold lstep at hstep
        simp only at hrow hrem holen hstop hstep ⊢
        have HOM := Lib.hid hOm
        clear hOm
        obtain ⟨po, co, rfl⟩ := own_shape hrow
        by_cases hlt : k < x.length
        · have i1 : (k : Int) < x.length := by omega
          obtain ⟨b, off, rfl, c0, c1, hb, hlc, hcm⟩ := (HX.out.kept0 hK).at_ k hlt
          have hst := hstep hlt
          obtain ⟨y1, y2, y3⟩ := pl_at HPL.out hlt
          by_cases hm0 : m = 0
          · have h1 := HF1.out
            have h2 := HF2.out
            rw [hstop hm0] at h1 h2
            simp only at h1 h2
            subst hm0
            have HROW := Lib.hid hrow
            have H1 := Lib.hid h1
            have H2 := Lib.hid h2
            clear hrow h1 h2 hstop hstep hrem hst
            go_wp2_with fail
            go_meet
            exact ⟨by rw [← H2.out], by rw [← H1.out]; exact World.ownsRow.alloc HROW.out _, hK.alloc _⟩
          · rw [if_neg hm0] at hst
            have r3 : O.length + 1 ≤ maxLen := by unfold maxLen; omega
            have r4 : (O.length + 1) * 16 ≤ 140737488355328 := by omega
            have HST := Lib.hid hst
            have HLT := Lib.hid hlt
            have hm1 : 0 < m := by omega
            have hm2 : m ≤ n := by omega
            have hKs := hK.size
            clear hst
            generalize x[k].1 = X0 at *
            generalize x[k].2 = Xn at *
            obtain ⟨r, hr⟩ : ∃ r, min Xn m = r := ⟨_, rfl⟩
            have hr1 : 1 ≤ r ∧ r ≤ m ∧ r ≤ Xn := by omega
            obtain ⟨hr1, hr2, hr3⟩ := hr1
            clear hstop hstep hrem
            go_wp2_with (at_builtin; go_must (refine wpList_append_own_at _ rfl (.tmp 29) (.tmp 31) 22 rfl w1.heap.size 57 i0 (.agg #[.int .i64 0, .int .i64 0]) 2 16 Try.underlying22 q0 q1 q2 q3 rfl (by decide) _ _ _ rfl (World.ownsRow.alloc (World.ownsRow.alloc hrow _) _) ⟨wr.heap.size + 1, 0, none⟩ 1 1 [.int .i64 X0, .int .i64 r] rfl rfl ?_ ?_ r3 r4 ?_ ?_))
            · have hnb : ((wr.alloc (.cells #[.int .i64 X0, .int .i64 r] 57)).alloc (.cells #[.int .i64 X0, .int .i64 r] 57)).heap[wr.heap.size + 1]? = some (.cells #[.int .i64 X0, .int .i64 r] 57 (0, 0)) := by
                have := heap_alloc_new (wr.alloc (.cells #[.int .i64 X0, .int .i64 r] 57)) (.cells #[.int .i64 X0, .int .i64 r] 57)
                rw [World.size_alloc] at this
                exact this
              exact World.news_of_block hnb
            · intro u hu; simp at hu; rcases hu with rfl | rfl <;> rfl
            · simp; omega
            intro v6 w6 o6 gr6 _ _
            have k6 : Kept [] w1 w6 := ((hK.alloc _).alloc _).grown gr6 (fun g hg => Or.inr (World.ownsRow.lt hrow g hg).1)
            have hst2 := HST.out
            rw [hr] at hst2
            have HST2 := Lib.hid hst2
            rw [show rcells O ++ [.int .i64 X0, .int .i64 r] = rcells (O ++ [(X0, r)]) from (rcells_snoc O (X0, r)).symm] at o6
            have HO6 := Lib.hid o6
            have HLE : (O ++ [(X0, r)]).length = O.length + 1 := by simp
            clear gr6 hrow o6 hst2
            go_wp2_with fail
            go_roundw
            case rel => exact ⟨k + 1, HLT.out, by go_num, by rw [HST2.out], by rw [HST2.out]; simp only [HLE]; exact HO6.out, k6⟩
            case measure => (have hh := HLT.out; simp [intOf]; omega)
        · obtain rfl : k = x.length := by omega
          have h1 := HF1.out
          have h2 := HF2.out
          rw [HOM.out] at h1 h2
          simp only at h1 h2
          have HROW := Lib.hid hrow
          have H1 := Lib.hid h1
          have H2 := Lib.hid h2
          clear hrow h1 h2 hstop hstep hrem
          go_wp2_with fail
          go_meet
          exact ⟨by rw [H2.out], by rw [← H1.out]; exact HROW.out, hK⟩
    case rest =>
      obtain ⟨rfl, hrow, hK⟩ := hcut
      obtain ⟨po, co, rfl⟩ := own_shape hrow
      have hKK := k1.trans hK
      have hro := ownsRow_base hrow k1.size
      have HRO := Lib.hid hro
      clear hrow hro
      obtain ⟨M, hM⟩ : ∃ M : Int, max 0 (n - cn) = M := ⟨_, rfl⟩
      rw [hM]
      have hM0 : 0 ≤ M := by omega
      by_cases hfu : (cn : Int) < n ∨ 16 < L.length
      · obtain ⟨e1, e2⟩ := HFU.out hfu
        have E1 := Lib.hid e1
        have E2 := Lib.hid e2
        clear e1 e2
        rcases (by omega : 0 < M ∨ (M = 0 ∧ 16 < L.length)) with g1 | ⟨rfl, g1⟩
        · clear hM hfu
          go_wp2_with fail
          refine bodyPost_ret (v := .tuple #[.slice none 0 0, .int .i64 100]) ?_ ?_ ?_
          · kernel_rfl
          · rfl
          · exact ⟨_, by rw [E1.out], by rw [E2.out]; exact World.ownsRow_nil _ _ _ _, hKK⟩
        · clear hM hfu
          have g2 : (16 : Int) < L.length := by omega
          go_wp2_with fail
          refine bodyPost_ret (v := .tuple #[.slice none 0 0, .int .i64 100]) ?_ ?_ ?_
          · kernel_rfl
          · rfl
          · exact ⟨_, by rw [E1.out], by rw [E2.out]; exact World.ownsRow_nil _ _ _ _, hKK⟩
      · obtain ⟨e1, e2⟩ := HOK.out (by omega) (by omega)
        have E1 := Lib.hid e1
        have E2 := Lib.hid e2
        obtain rfl : M = 0 := by omega
        have g2 : (L.length : Int) ≤ 16 := by omega
        clear hM hfu e1 e2
        go_wp2_with fail
        refine bodyPost_ret (v := .tuple #[.slice po L.length co, .int .i64 0]) ?_ ?_ ?_
        · kernel_rfl
        · rfl
        · exact ⟨_, by rw [E1.out], by rw [E2.out]; exact HRO.out, hKK⟩
theorem lowF_at (l : List (Int × Int)) (n : Int) (k : Nat) : lowF l n k = (hasB l k && decide ((cntF (hasB l) k : Int) < n)) := rfl
/-- the row behind k sectors: the lowest ones of those, and the others as they were. -/
def lowRow (l : List (Int × Int)) (n : Int) (k m : Nat) : Bool := if m < k then lowF l n m else hasB l m
theorem lowRow_zero (l : List (Int × Int)) (n : Int) (m : Nat) : lowRow l n 0 m = hasB l m := by unfold lowRow; rw [if_neg (by omega)]
theorem lowRow_self (l : List (Int × Int)) (n : Int) (k : Nat) : lowRow l n k k = hasB l k := by unfold lowRow; rw [if_neg (by omega)]
theorem lowRow_next (l : List (Int × Int)) (n : Int) (k m : Nat) (h : m ≠ k) : lowRow l n (k + 1) m = lowRow l n k m := by
  unfold lowRow
  by_cases e : m < k
  · rw [if_pos e, if_pos (by omega)]
  · rw [if_neg e, if_neg (by omega)]
theorem lowRow_at (l : List (Int × Int)) (n : Int) (k : Nat) : lowRow l n (k + 1) k = lowF l n k := by unfold lowRow; rw [if_pos (by omega)]
set_option maxRecDepth 100000 in
set_option maxHeartbeats 4000000 in
theorem zlowest (v : Value) (l : List (Int × Int)) (n : Int) (lo hi : Nat) (w : World) (h : RunsIn w v l lo hi) (hl : l.length ≤ 1000000) (hwf : ∀ a ∈ l, WfRun a) (hn1 : -9223372036854775808 ≤ n) (hn2 : n ≤ 9223372036854775807) :
    Calls Try.prog 11 #[v, .int .i64 n] w (LowSays l n w) := by
  have hp := zrow v l lo hi w h hl hwf
  obtain ⟨p, c, rfl⟩ := h.shape
  by_cases hneg : n < 0
  · obtain ⟨e1, e2⟩ := low_neg (l := l) hneg
    unfold LowSays
    rw [e1, e2]
    clear hp h hwf e1 e2
    go_enter Try.func11, Try.ntmps11
    go_wp2_with fail
    refine bodyPost_ret (v := .tuple #[.slice none 0 0, .int .i64 1]) ?_ ?_ ?_
    · kernel_rfl
    · rfl
    · exact ⟨_, rfl, World.ownsRow_nil _ _ _ _, Kept.refl _ _⟩
  · have hn0 : 0 ≤ n := by omega
    have hfull := low_full (l := l) (n := n) hn0
    have hok2 := low_ok2 (l := l) (n := n) hn0
    have hll : (lowestL l n).length ≤ 8192 := by
      have : Pl 0 (lowestL l n) := canon_pl _
      have := this.len0
      omega
    have hru := fun g W (hg : RowAt W g (lowF l n)) => zruns g (lowF l n) W hg
    have hcn : countL l = cntF (hasB l) 8192 := rfl
    have eL : canon (lowF l n) = lowestL l n := rfl
    rw [eL] at hru
    unfold LowSays
    unfold GivesR at hru
    have HP := Lib.hid hp
    have HRU := Lib.hid hru
    have HFU := Lib.hid hfull
    have HOK := Lib.hid hok2
    have HCN := Lib.hid hcn
    clear hp h hwf hfull hok2 hl hcn hru eL
    generalize lowestL l n = L at *
    generalize lowCode l n = C at *
    generalize lowRes l n = R at *
    generalize countL l = cn at *
    generalize l.length = ll at *
    go_enter Try.func11, Try.ntmps11
    go_wp2_with fail
    refine HP.out.mono ?_; rintro e w1 ⟨rfl, r1, k1⟩
    have R1 := Lib.hid (RowAt.congr (f' := lowRow l n 0) r1 (fun m _ => (lowRow_zero l n m).symm))
    clear r1
    go_wp2_with fail
    go_loopw [1, 7] (fun m i wr => ∃ k : Nat, k ≤ 8192 ∧ i = .int .i64 k ∧ m = .int .i64 (max 0 (n - cntF (hasB l) k)) ∧ RowAt wr w.heap.size (lowRow l n k) ∧ Kept [] w wr) (fun _ i _ => 8192 - (intOf i).toNat)
    case atStart => exact ⟨0, by omega, rfl, by rw [show max 0 (n - ((cntF (hasB l) 0 : Nat) : Int)) = n by show max 0 (n - 0) = n; omega], R1.out, k1⟩
    case round =>
      obtain ⟨k, hk, rfl, rfl, hrow, hK⟩ := hrel
      by_cases hlt : k < 8192
      · have i1 : (k : Int) < 8192 := by omega
        have ck := Rw.cell hrow k hlt
        rw [lowRow_self] at ck
        have zk := Rw.free hrow k
        have hgl := Rw.lt hrow
        have hcs : cntF (hasB l) (k + 1) = cntF (hasB l) k + if hasB l k = true then 1 else 0 := rfl
        have hlf := lowF_at l n k
        have hset : ∀ u, u = lowF l n k → RowAt (wr.setCell ⟨w.heap.size, k, none⟩ (.bool u)) w.heap.size (lowRow l n (k + 1)) := fun u hu => Rw.set hrow k hlt (.bool u) _ (by rw [lowRow_at, hu]) (fun m _ hm => by rw [lowRow_next l n k m hm])
        have hsame : lowF l n k = hasB l k → RowAt wr w.heap.size (lowRow l n (k + 1)) := fun e => RowAt.congr hrow (fun m _ => by
          by_cases h : m = k
          · subst h; rw [lowRow_self, lowRow_at, e]
          · rw [lowRow_next l n k m h])
        have hks := hK.setCell (p := ⟨w.heap.size, k, none⟩) (Or.inr (Nat.le_refl _)) (.bool false)
        have HLT := Lib.hid hlt
        have HSET := Lib.hid hset
        have HSA := Lib.hid hsame
        have HKS := Lib.hid hks
        have HCS := Lib.hid hcs
        have HLF := Lib.hid hlf
        clear hset hsame hrow hks hcs hlf
        generalize hhb : hasB l k = hb at *
        generalize lowF l n k = lf at *
        obtain ⟨M, hM⟩ : ∃ M : Int, max 0 (n - cntF (hasB l) k) = M := ⟨_, rfl⟩
        have HM := Lib.hid hM
        rw [hM]
        have hM0 : 0 ≤ M := by omega
        have hM1 : M ≤ n := by omega
        generalize cntF (hasB l) k = ct at *
        clear hM hhb
        cases hb with
        | false =>
          go_wp2_with fail
          go_roundw
          case rel => exact ⟨k + 1, HLT.out, by go_num, by rw [HCS.out, ← HM.out]; simp, HSA.out HLF.out, hK⟩
          case measure => (have hh := HLT.out; simp [intOf]; omega)
        | true =>
          by_cases hz : M = 0
          · subst hz
            have hnx : max 0 (n - ((ct + 1 : Nat) : Int)) = 0 := by have := HM.out; omega
            have hlz : lf = false := by have := HLF.out; have h2 := HM.out; rw [this]; simp; omega
            have HNX := Lib.hid hnx
            have HLZ := Lib.hid hlz
            clear hnx hlz
            go_wp2_with fail
            go_roundw
            case rel => exact ⟨k + 1, HLT.out, by go_num, by rw [HCS.out, if_pos rfl, HNX.out], HSET.out false HLZ.out.symm, HKS.out⟩
            case measure => (have hh := HLT.out; simp [intOf]; omega)
          · have hnx : max 0 (n - ((ct + 1 : Nat) : Int)) = M - 1 := by have := HM.out; omega
            have hlz : lf = true := by have := HLF.out; have h2 := HM.out; rw [this]; simp; omega
            have HNX := Lib.hid hnx
            have HLZ := Lib.hid hlz
            have hM2 : 0 < M := by omega
            clear hnx hlz
            go_wp2_with fail
            go_roundw
            case rel => exact ⟨k + 1, HLT.out, by go_num, by rw [HCS.out, if_pos rfl, HNX.out], HSA.out HLZ.out, hK⟩
            case measure => (have hh := HLT.out; simp [intOf]; omega)
      · obtain rfl : k = 8192 := by omega
        rw [← HCN.out]
        have hfin := RowAt.congr (f' := lowF l n) hrow (fun m hm => by unfold lowRow; rw [if_pos hm])
        have hr2 := HRU.out _ _ hfin
        obtain ⟨M, hM⟩ : ∃ M : Int, max 0 (n - cn) = M := ⟨_, rfl⟩
        rw [hM]
        have hM0 : 0 ≤ M := by omega
        clear hrow hfin
        go_wp2_with fail
        refine hr2.mono ?_; rintro e w3 ⟨vo, rfl, r3, k3⟩
        obtain ⟨po, co, rfl⟩ := own_shape r3
        have hKK := hK.trans k3
        have hro := ownsRow_base r3 hK.size
        have HRO := Lib.hid hro
        clear r3 hro
        by_cases hfu : (cn : Int) < n ∨ 16 < L.length
        · obtain ⟨e1, e2⟩ := HFU.out hfu
          have E1 := Lib.hid e1
          have E2 := Lib.hid e2
          clear e1 e2
          rcases (by omega : 0 < M ∨ (M = 0 ∧ 16 < L.length)) with g1 | ⟨rfl, g1⟩
          · clear hM hfu
            go_wp2_with fail
            refine bodyPost_ret (v := .tuple #[.slice none 0 0, .int .i64 100]) ?_ ?_ ?_
            · kernel_rfl
            · rfl
            · exact ⟨_, by rw [E1.out], by rw [E2.out]; exact World.ownsRow_nil _ _ _ _, hKK⟩
          · clear hM hfu
            have g2 : (16 : Int) < L.length := by omega
            go_wp2_with fail
            refine bodyPost_ret (v := .tuple #[.slice none 0 0, .int .i64 100]) ?_ ?_ ?_
            · kernel_rfl
            · rfl
            · exact ⟨_, by rw [E1.out], by rw [E2.out]; exact World.ownsRow_nil _ _ _ _, hKK⟩
        · obtain ⟨e1, e2⟩ := HOK.out (by omega) (by omega)
          have E1 := Lib.hid e1
          have E2 := Lib.hid e2
          obtain rfl : M = 0 := by omega
          have g2 : (L.length : Int) ≤ 16 := by omega
          clear hM hfu e1 e2
          go_wp2_with fail
          refine bodyPost_ret (v := .tuple #[.slice po L.length co, .int .i64 0]) ?_ ?_ ?_
          · kernel_rfl
          · rfl
          · exact ⟨_, by rw [E1.out], by rw [E2.out]; exact HRO.out, hKK⟩
end Go.Proofs.Ytmljbmhalpdpmaa
