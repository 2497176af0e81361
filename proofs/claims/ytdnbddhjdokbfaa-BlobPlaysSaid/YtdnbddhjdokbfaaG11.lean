/- Walks of layer 10's reference (extent): rows of truths, and their runs. -/
import Derived.Test.YtdnbddhjdokbfaaG10
namespace Go.Proofs.Ytdnbddhjdokbfaa
open Go.RowKit
set_option linter.unusedVariables false
set_option linter.unusedSimpArgs false

/-- the sector behind a run's last one. -/
def endOf (a : Int × Int) : Int := if a.2 < 1 ∨ 8192 ≤ a.1 then 0 else if 0 ≤ a.1 ∧ 8192 - a.1 < a.2 then 8192 else min (max (a.1 + a.2) 0) 8192
theorem end_is (a : Int × Int) (m : Nat) (hm : m < 8192) : (max a.1 0 ≤ m ∧ (m : Int) < endOf a) ↔ (a.1 ≤ m ∧ (m : Int) < a.1 + a.2) := by
  unfold endOf
  by_cases h1 : a.2 < 1 ∨ 8192 ≤ a.1
  · rw [if_pos h1]; omega
  · rw [if_neg h1]
    by_cases h2 : 0 ≤ a.1 ∧ 8192 - a.1 < a.2
    · rw [if_pos h2]; omega
    · rw [if_neg h2]; omega
theorem end_bd (a : Int × Int) : 0 ≤ endOf a ∧ endOf a ≤ 8192 := by
  unfold endOf
  split
  · omega
  · split <;> omega
set_option maxRecDepth 100000 in
theorem zend (a : Int × Int) (w : World) (hw : WfRun a) : Calls Try.prog 70 #[.agg #[.int .i64 a.1, .int .i64 a.2]] w fun e w' => e = .returned (.int .i64 (endOf a)) ∧ w.alloc (.cells #[.int .i64 a.1, .int .i64 a.2] 66) = w' := by
  obtain ⟨x, n⟩ := a
  obtain ⟨w1, w2, w3, w4⟩ := hw
  simp only at w1 w2 w3 w4 ⊢
  unfold endOf
  simp only
  rcases (by omega : n < 1 ∨ (1 ≤ n ∧ 8192 ≤ x) ∨ (1 ≤ n ∧ x < 8192 ∧ 0 ≤ x ∧ 8192 - x < n) ∨ (1 ≤ n ∧ x < 8192 ∧ 0 ≤ x ∧ n ≤ 8192 - x) ∨ (1 ≤ n ∧ x < 8192 ∧ x < 0)) with h1 | ⟨h1, h2⟩ | ⟨h1, h2, h3, h4⟩ | ⟨h1, h2, h3, h4⟩ | ⟨h1, h2, h3⟩
  · rw [if_pos (Or.inl h1)]
    go_enter Try.func70, Try.ntmps70
    go_wp2_with fail
    go_ret
    exact ⟨rfl, rfl⟩
  · rw [if_pos (Or.inr h2)]
    go_enter Try.func70, Try.ntmps70
    go_wp2_with fail
    go_ret
    exact ⟨rfl, rfl⟩
  · rw [if_neg (by omega), if_pos ⟨h3, h4⟩]
    go_enter Try.func70, Try.ntmps70
    go_wp2_with fail
    go_ret
    exact ⟨rfl, rfl⟩
  · rw [if_neg (by omega), if_neg (by omega)]
    have hm1 : max (x + n) 0 = x + n := by omega
    have hm2 : min (x + n) 8192 = x + n := by omega
    rw [hm1, hm2]
    go_enter Try.func70, Try.ntmps70
    go_wp2_with fail
    go_ret
    exact ⟨rfl, rfl⟩
  · rw [if_neg (by omega), if_neg (by omega)]
    obtain ⟨m, hm⟩ : ∃ m, m = min (max (x + n) 0) 8192 := ⟨_, rfl⟩
    rw [← hm]
    rcases (by omega : x + n < 0 ∨ (0 ≤ x + n ∧ x + n ≤ 8192) ∨ 8192 < x + n) with g1 | ⟨g1, g2⟩ | g1
    · obtain rfl : m = 0 := by omega
      clear hm
      have hm1 : max (x + n) 0 = 0 := by omega
      go_enter Try.func70, Try.ntmps70
      go_wp2_with fail
      all_goals first | (exfalso; omega) | (go_ret; exact ⟨rfl, rfl⟩)
    · obtain rfl : m = x + n := by omega
      clear hm
      have hm1 : max (x + n) 0 = x + n := by omega
      have hm2 : min (x + n) 8192 = x + n := by omega
      go_enter Try.func70, Try.ntmps70
      go_wp2_with fail
      all_goals first | (exfalso; omega) | (go_ret; exact ⟨rfl, rfl⟩)
    · obtain rfl : m = 8192 := by omega
      clear hm
      have hm1 : max (x + n) 0 = x + n := by omega
      have hm2 : min (x + n) 8192 = 8192 := by omega
      go_enter Try.func70, Try.ntmps70
      go_wp2_with fail
      all_goals first | (exfalso; omega) | (go_ret; exact ⟨rfl, rfl⟩)
theorem infoBool : ∃ i, Try.prog.info? 4 = some i ∧ i.zero = some (.bool false) ∧ i.size = 1 ∧ i.bytes = 1 := by
  have hi : (Try.prog.info? 4).map (fun i => (i.zero, i.size, i.bytes)) = some (some (.bool false), 1, 1) := by kernel_rfl
  obtain ⟨i0, hi0, hz0, hz1, hz2⟩ := info_parts hi
  exact ⟨i0, hi0, hz0, hz1, hz2⟩
theorem run_make_row8192 (w : World) : (Instr.makeSlice 77 (.int .i64 8192) (.int .i64 8192)).run Try.prog w = .ok (.slice (some ⟨w.heap.size, 0, none⟩) 8192 8192) (w.alloc (.cells (Array.replicate 8192 (.bool false)) 4)) := by
  obtain ⟨i0, h1, h2, h3, h4⟩ := infoBool
  exact run_make_rep (P := Try.prog) 77 4 i0 (.bool false) Try.underlying77 h1 h2 h3 rfl 8192 (by rw [h4]; omega) (by omega) w
/-- block g holds a row of truths. -/
def RowAt (w : World) (g : Nat) (f : Nat → Bool) : Prop := Rw w g 4 8192 (fun k => .bool (f k))
theorem RowAt.congr {w : World} {g : Nat} {f f' : Nat → Bool} (h : RowAt w g f) (e : ∀ m, m < 8192 → f m = f' m) : RowAt w g f' := Rw.congr h (fun i hi => by rw [e i hi])
theorem hasB_take (l : List (Int × Int)) (k : Nat) (h : k < l.length) (m : Nat) : hasB (l.take (k + 1)) m = (hasB (l.take k) m || (decide (l[k].1 ≤ m) && decide ((m : Int) < l[k].1 + l[k].2))) := by
  rw [List.take_succ_eq_append_getElem h, hasB_append]
  congr 1
  simp [hasB]
set_option maxRecDepth 100000 in
set_option maxHeartbeats 2000000 in
theorem zrow (v : Value) (l : List (Int × Int)) (lo hi : Nat) (w : World) (h : RunsIn w v l lo hi) (hl : l.length ≤ 1000000) (hwf : ∀ a ∈ l, WfRun a) :
    Calls Try.prog 48 #[v] w fun e w' => e = .returned (.slice (some ⟨w.heap.size, 0, none⟩) 8192 8192) ∧ RowAt w' w.heap.size (hasB l) ∧ Kept [] w w' := by
  have hmk := run_make_row8192
  have h0 : RowAt (w.alloc (.cells (Array.replicate 8192 (.bool false)) 4)) w.heap.size (hasB (l.take 0)) := Rw.made w 4 8192 (.bool false)
  obtain ⟨p, c, rfl⟩ := h.shape
  have H := Lib.hid h
  have HWF := Lib.hid hwf
  have H0 := Lib.hid h0
  have hl' : (l.length : Int) ≤ 1000000 := by omega
  clear h hwf h0
  go_enter Try.func48, Try.ntmps48
  go_wp2_with fail
  go_loopw [4] (fun i wr => ∃ k : Nat, k ≤ l.length ∧ i = .int .i64 k ∧ RowAt wr w.heap.size (hasB (l.take k)) ∧ Kept [] w wr) (fun i _ => l.length - (intOf i).toNat)
  case atStart => exact ⟨0, by omega, rfl, H0.out, (Kept.refl _ _).alloc _⟩
  case round =>
    obtain ⟨k, hk, rfl, hrow, hK⟩ := hrel
    by_cases hlt : k < l.length
    · obtain ⟨b, off, rfl, c0, c1, hb, hlc, hcm⟩ := (H.out.kept0 hK).at_ k hlt
      have hbw : b < w.heap.size := by
        obtain ⟨b', off', e', _, _, hb', _⟩ := H.out.at_ k hlt
        injection e' with e'
        injection e' with e1 _ _
        omega
      have hz := fun W => zend l[k] W (HWF.out _ (List.getElem_mem hlt))
      have hhas := hasB_take l k hlt
      have hend := end_is l[k]
      have hebd := end_bd l[k]
      have i1 : (k : Int) < l.length := by omega
      have C0 := Lib.hid ((hK.cell (a := ⟨b, off + k * 2, none⟩) (by exact hbw) (by simp)).symm.trans c0)
      have C1 := Lib.hid ((hK.cell (a := ⟨b, off + k * 2 + 1, none⟩) (by exact hbw) (by simp)).symm.trans c1)
      have HHAS := Lib.hid hhas
      have HEND := Lib.hid hend
      have HLT := Lib.hid hlt
      obtain ⟨S, hS⟩ : ∃ S, max l[k].1 0 = S := ⟨_, rfl⟩
      have hS0 : 0 ≤ S := by omega
      have HSS := Lib.hid hS
      have HROW := Lib.hid hrow
      have HZ := Lib.hid hz
      obtain ⟨e1, e2⟩ := hebd
      clear hhas hend hrow hz
      generalize hasB (l.take k) = F at *
      generalize endOf l[k] = E at *
      generalize l[k].1 = X0 at *
      generalize l[k].2 = Xn at *
      obtain ⟨Sn, rfl⟩ := Int.eq_ofNat_of_zero_le hS0
      clear hS0 c0 c1
      have c0 := (hK.cell (a := ⟨b, off + k * 2, none⟩) (by exact hbw) (by simp)).trans C0.out
      have c1 := (hK.cell (a := ⟨b, off + k * 2 + 1, none⟩) (by exact hbw) (by simp)).trans C1.out
      go_wp2_with fail
      all_goals
        obtain ⟨wo, rfl⟩ : ∃ wo : World, wo = wr := ⟨_, rfl⟩
        go_loopw [5] (fun i wr => ∃ j : Nat, (j = Sn ∨ (j : Int) ≤ E) ∧ Sn ≤ j ∧ i = .int .i64 j ∧ RowAt wr w.heap.size (fun m => F m || (decide (Sn ≤ m) && decide (m < j))) ∧ Kept [] w wr) (fun i _ => 8192 - (intOf i).toNat)
        case atStart =>
          refine ⟨Sn, Or.inl rfl, Nat.le_refl _, ?_, HROW.out.congr (fun m _ => ?_), hK⟩
          · first | rfl | (have := HSS.out; congr 1; omega)
          · have : (decide (Sn ≤ m) && decide (m < Sn)) = false := by simp
            rw [this, Bool.or_false]
        case round =>
          obtain ⟨j, hj1, hj2, rfl, hrow, hK2⟩ := hrel
          have c0 := (hK2.cell (a := ⟨b, off + k * 2, none⟩) (by exact hbw) (by simp)).trans C0.out
          have c1 := (hK2.cell (a := ⟨b, off + k * 2 + 1, none⟩) (by exact hbw) (by simp)).trans C1.out
          by_cases hjE : (j : Int) < E
          · have hj8 : j < 8192 := by omega
            have j8 : (j : Int) < 8192 := by omega
            have d0 := Rw.cell hrow j hj8
            have z0 := Rw.free hrow j
            have hset := Rw.set hrow j hj8 (.bool true) (fun m => .bool (F m || (decide (Sn ≤ m) && decide (m < j + 1)))) (by
              have e5 : (decide (Sn ≤ j) && decide (j < j + 1)) = true := by simp; omega
              rw [e5, Bool.or_true]) (fun m _ hm => by
              have e5 : decide (m < j + 1) = decide (m < j) := by rw [decide_eq_decide]; omega
              rw [e5])
            have hkf := (hK2.setCell (p := ⟨w.heap.size, j, none⟩) (Or.inr (Nat.le_refl _)) (.bool true)).alloc (.cells #[.int .i64 X0, .int .i64 Xn] 66)
            have HSET := Lib.hid hset
            have hgl := Rw.lt hrow
            clear hset hrow
            generalize (F j || (decide (Sn ≤ j) && decide (j < j))) = bb at *
            go_wp2_with fail
            refine (HZ.out _).mono ?_; rintro e w5 ⟨rfl, rfl⟩
            go_wp2_with fail
            go_roundw
            case rel => exact ⟨j + 1, by omega, by omega, by go_num, Rw.alloc HSET.out _, hkf⟩
            case measure => simp [intOf]; omega
          · have hfin : RowAt (wr.alloc (.cells #[.int .i64 X0, .int .i64 Xn] 66)) w.heap.size (hasB (l.take (k + 1))) := RowAt.congr (Rw.alloc hrow _) (fun m hm => by
              rw [HHAS.out m]
              congr 1
              have h3 := HEND.out m hm
              have h4 := HSS.out
              rw [h4] at h3
              rw [Bool.eq_iff_iff]
              simp only [Bool.and_eq_true, decide_eq_true_eq]
              rw [← h3]
              omega)
            have HFIN := Lib.hid hfin
            have hkf := hK2.alloc (.cells #[.int .i64 X0, .int .i64 Xn] 66)
            clear hfin hrow
            go_wp2_with fail
            refine (HZ.out _).mono ?_; rintro e w5 ⟨rfl, rfl⟩
            go_wp2_with fail
            go_roundw
            case rel => exact ⟨k + 1, HLT.out, by go_num, HFIN.out, hkf⟩
            case measure => (have hh := HLT.out; simp [intOf]; omega)
    · obtain rfl : k = l.length := by omega
      rw [List.take_length] at hrow
      have HROW := Lib.hid hrow
      clear hrow
      go_wp2_with fail
      go_ret
      exact ⟨rfl, HROW.out, hK⟩
set_option maxRecDepth 100000 in
set_option maxHeartbeats 2000000 in
theorem zruns (g : Nat) (f : Nat → Bool) (w : World) (h : RowAt w g f) :
    Calls Try.prog 90 #[.slice (some ⟨g, 0, none⟩) 8192 8192] w (GivesR (canon f) w) := by
  obtain ⟨i0, q0, q1, q2, q3⟩ := infoRun
  have H := Lib.hid h
  have hgl := Rw.lt h
  have hok := fun k hk => runs_ok f k hk
  have HOK := Lib.hid hok
  unfold GivesR
  clear h hok
  go_enter Try.func90, Try.ntmps90
  go_wp2_with fail
  go_loopw [3, 4] (fun v i wr => ∃ k : Nat, k ≤ 8192 ∧ i = .int .i64 k ∧ wr.ownsRow w.heap.size 66 2 v (runsF f k).length (rcells (runsF f k)) ∧ Kept [] w wr) (fun _ i _ => 8192 - (intOf i).toNat)
  case atStart => exact ⟨0, by omega, rfl, World.ownsRow_nil _ _ _ _, Kept.refl _ _⟩
  case round =>
    obtain ⟨k, hk, rfl, hrow, hK⟩ := hrel
    by_cases hlt : k < 8192
    · have ck := (hK.cell (a := ⟨g, k, none⟩) (by exact hgl) (by simp)).trans (Rw.cell H.out k hlt)
      have hrun : runsF f (k + 1) = if f k = true then (if k ≠ 0 ∧ f (k - 1) = true then bump (runsF f k) else runsF f k ++ [((k : Int), 1)]) else runsF f k := rfl
      have hlen := (HOK.out k hk).pl.len0
      have i1 : (k : Int) < 8192 := by omega
      have HLT := Lib.hid hlt
      have hKs := hK.size
      have r3 : (runsF f k).length + 1 ≤ maxLen := by unfold maxLen; omega
      have r4 : ((runsF f k).length + 1) * 16 ≤ 140737488355328 := by omega
      cases hf : f k
      · rw [hf] at ck hrun
        rw [if_neg (by simp)] at hrun
        have HR := Lib.hid hrun
        have HRO := Lib.hid hrow
        clear hrun hf hrow
        generalize runsF f k = M at *
        go_wp2_with fail
        go_roundw
        case rel => exact ⟨k + 1, HLT.out, by go_num, by rw [HR.out]; exact HRO.out, hK⟩
        case measure => (have hh := HLT.out; simp [intOf]; omega)
      · rw [hf] at ck hrun
        rw [if_pos rfl] at hrun
        by_cases hadj : k ≠ 0 ∧ f (k - 1) = true
        · rw [if_pos hadj] at hrun
          obtain ⟨I, q, e, hq⟩ := runs_last (HOK.out k hk) hadj.1 hadj.2
          rw [e, bump_snoc] at hrun
          rw [e] at hrow hlen
          have hml : (I ++ [q]).length = I.length + 1 := by simp
          rw [hml] at hrow hlen
          obtain ⟨n, rfl⟩ : ∃ n, k = n + 1 := ⟨k - 1, by omega⟩
          have cn := (hK.cell (a := ⟨g, n, none⟩) (by exact hgl) (by simp)).trans (Rw.cell H.out n (by omega))
          rw [show f n = true from hadj.2] at cn
          obtain ⟨gb, c4, rfl, hg1, hg2, hg3, hg4, hgc⟩ := ownsRow_at hrow (by omega)
          obtain ⟨u1, u2⟩ := rcells_at_last I q
          have e1 := hgc _ _ u2
          have z1 := World.ownsRow.frozenAt hrow (I.length * 2 + 1)
          have hpl := (HOK.out (n + 1) hk).pl
          rw [e] at hpl
          obtain ⟨_, p2, p3, p4, _⟩ := hpl.init
          have hst := (World.ownsRow.stored hrow (I.length * 2 + 1) (.int .i64 (q.2 + 1))).1
          rw [show q = (q.1, q.2) from rfl, rcells_last] at hst
          have e9 : (I ++ [(q.1, q.2 + 1)]).length = I.length + 1 := by simp
          have hkf := hK.setCell (p := ⟨gb, I.length * 2 + 1, none⟩) (Or.inr hg1) (.int .i64 (q.2 + 1))
          have HR := Lib.hid hrun
          have HST := Lib.hid hst
          have HE9 := Lib.hid e9
          have i2 : (I.length : Int) ≤ 8192 := by omega
          have i3 : ((n : Int) + 1) < 8192 := by omega
          clear hrun hst e9 hadj hgc u1 u2 hrow hf e hpl hq
          go_wp2_with fail
          go_roundw
          case rel => exact ⟨n + 1 + 1, HLT.out, by go_num, by rw [HR.out, HE9.out]; exact HST.out, hkf⟩
          case measure => (have hh := HLT.out; simp [intOf]; omega)
        · rw [if_neg hadj] at hrun
          have HR := Lib.hid hrun
          have hcn : k = 0 ∨ (k ≠ 0 ∧ f (k - 1) = false) := by
            by_cases h0 : k = 0
            · exact Or.inl h0
            · refine Or.inr ⟨h0, ?_⟩
              cases hx : f (k - 1)
              · rfl
              · exact absurd ⟨h0, hx⟩ hadj
          have happ : ∀ (w6 : World) v6, w6.ownsRow w.heap.size 66 2 v6 ((runsF f k).length + 1) (rcells (runsF f k) ++ [.int .i64 k, .int .i64 1]) → w6.ownsRow w.heap.size 66 2 v6 (runsF f (k + 1)).length (rcells (runsF f (k + 1))) := fun w6 v6 h => by
            rw [HR.out, rcells_snoc, List.length_append, List.length_singleton]; exact h
          have HAPP := Lib.hid happ
          obtain ⟨p4, c4, rfl⟩ := own_shape hrow
          clear hrun hadj happ hf HR
          generalize runsF f k = M at *
          rcases hcn with rfl | ⟨h0, hcn⟩
          · go_wp2_with (at_builtin; go_must (refine wpList_append_own_at _ rfl (.tmp 35) (.tmp 38) 22 rfl w.heap.size 66 i0 (.agg #[.int .i64 0, .int .i64 0]) 2 16 Try.underlying22 q0 q1 q2 q3 rfl (by decide) _ _ _ rfl (World.ownsRow.alloc hrow _) ⟨wr.heap.size, 0, none⟩ 1 1 [.int .i64 0, .int .i64 1] rfl rfl ?_ ?_ r3 r4 ?_ ?_))
            · exact World.news_of_block (heap_alloc_new wr _)
            · intro u hu; simp at hu; rcases hu with rfl | rfl <;> rfl
            · simp; omega
            intro v6 w6 o6 gr6 _ _
            have k6 : Kept [] w w6 := (hK.alloc _).grown gr6 (fun g hg => Or.inr (World.ownsRow.lt hrow g hg).1)
            have HO6 := Lib.hid o6
            clear gr6 hrow o6
            go_wp2_with fail
            go_roundw
            case rel => exact ⟨0 + 1, HLT.out, by go_num, HAPP.out _ _ HO6.out, k6⟩
            case measure => (have hh := HLT.out; simp [intOf])
          · obtain ⟨n, rfl⟩ : ∃ n, k = n + 1 := ⟨k - 1, by omega⟩
            have cn := (hK.cell (a := ⟨g, n, none⟩) (by exact hgl) (by simp)).trans (Rw.cell H.out n (by omega))
            rw [show f n = false from hcn] at cn
            have i3 : ((n : Int) + 1) < 8192 := by omega
            clear hcn
            go_wp2_with (at_builtin; go_must (refine wpList_append_own_at _ rfl (.tmp 35) (.tmp 38) 22 rfl w.heap.size 66 i0 (.agg #[.int .i64 0, .int .i64 0]) 2 16 Try.underlying22 q0 q1 q2 q3 rfl (by decide) _ _ _ rfl (World.ownsRow.alloc hrow _) ⟨wr.heap.size, 0, none⟩ 1 1 [.int .i64 ((n : Int) + 1), .int .i64 1] rfl rfl ?_ ?_ r3 r4 ?_ ?_))
            · exact World.news_of_block (heap_alloc_new wr _)
            · intro u hu; simp at hu; rcases hu with rfl | rfl <;> rfl
            · simp; omega
            intro v6 w6 o6 gr6 _ _
            have k6 : Kept [] w w6 := (hK.alloc _).grown gr6 (fun g hg => Or.inr (World.ownsRow.lt hrow g hg).1)
            have HO6 := Lib.hid o6
            clear gr6 hrow o6
            go_wp2_with fail
            go_roundw
            case rel => exact ⟨n + 1 + 1, HLT.out, by go_num, HAPP.out _ _ HO6.out, k6⟩
            case measure => (have hh := HLT.out; simp [intOf]; omega)
    · obtain rfl : k = 8192 := by omega
      have HR := Lib.hid hrow
      clear hrow
      go_wp2_with fail
      go_ret
      exact ⟨_, rfl, HR.out, hK⟩
end Go.Proofs.Ytdnbddhjdokbfaa
