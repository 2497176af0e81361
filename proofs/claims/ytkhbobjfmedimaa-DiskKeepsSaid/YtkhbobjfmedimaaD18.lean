/- Walk of chapter 9's statement: what was flushed stands. -/
import Derived.Test.YtkhbobjfmedimaaD17
import Derived.Deep.RegionHeld3
import Derived.Deep.CutBlock
import Derived.Deep.DeepCutAuto
namespace Go.Proofs.Ytkhbobjfmedimaa
open Go.RowKit Go.Maps
set_option linter.unusedVariables false
set_option linter.unusedSimpArgs false

theorem getD_of {α : Type} [Inhabited α] (l : List α) (k : Nat) (h : k < l.length) : l.getD k default = l[k] := by
  rw [List.getD_eq_getElem?_getD, List.getElem?_eq_getElem h]; rfl
theorem DiskAt.lo_ {w : World} {b sb mb lo : Nat} {d : DK} (h : DiskAt w b sb mb lo d) : b < lo ∧ lo ≤ w.heap.size ∧ d.stand.length ≤ 8192 := by
  obtain ⟨_, _, _, _, _, _, _, _, _, _, h5, h6, h7, h8, _⟩ := h
  exact ⟨h5, h6, h8⟩
/-- the disk of eight sectors of noughts. -/
def d8 : DK := newD (List.replicate 8 zeroS)
theorem d8_facts : d8.stand.length = 8 ∧ (∀ s ∈ d8.stand, s.length = 128) ∧ d8.waits = [] ∧ d8.fuse = -1 ∧ d8.down = false ∧ d8.ops = 0 := by
  refine ⟨by show (List.replicate 8 zeroS).length = 8; rw [List.length_replicate], fun s hs => ?_, rfl, rfl, rfl, rfl⟩
  have := List.eq_of_mem_replicate hs
  subst this; unfold zeroS; rw [List.length_replicate]
/-- the disk when the first writes are flushed. -/
def flushed (l1 : List DAct) (k : Nat) : DK := settleD (opD (putN d8 l1 k)) (fun _ => true)
theorem flushed_facts (l1 : List DAct) (k : Nat) : (flushed l1 k).stand.length = 8 ∧ (∀ s ∈ (flushed l1 k).stand, s.length = 128) ∧ (flushed l1 k).waits = [] ∧ (flushed l1 k).fuse = -1 ∧ (flushed l1 k).down = false ∧ (flushed l1 k).ops ≤ k + 1 := by
  obtain ⟨g1, g2, g3, g4, g5, g6⟩ := d8_facts
  obtain ⟨h1, h2, h3, h4, h5, h6⟩ := putN_facts d8 l1 g4 g5 k
  refine ⟨?_, ?_, rfl, ?_, ?_, ?_⟩
  · show (sk (putN d8 l1 k).stand (putN d8 l1 k).waits _ (putN d8 l1 k).waits.length).length = 8
    rw [sk_len, h1, g1]
  · refine sk_all (p := fun s => s.length = 128) _ _ _ ?_ ?_ _ (Nat.le_refl _)
    · show ∀ s ∈ (putN d8 l1 k).stand, _
      rw [h1]; exact g2
    · intro x hx
      rcases h6 x hx with h | ⟨_, j, _, _, e⟩
      · rw [g3] at h; cases h
      · rw [e, sectorL_len]
  · show (if 0 < (putN d8 l1 k).fuse then (putN d8 l1 k).fuse - 1 else (putN d8 l1 k).fuse) = -1
    rw [h2]; rfl
  · show (if (putN d8 l1 k).fuse = 0 then true else (putN d8 l1 k).down) = false
    rw [h2, h3]; rfl
  · show (putN d8 l1 k).ops + 1 ≤ _
    omega
set_option maxRecDepth 100000 in
set_option maxHeartbeats 8000000 in
theorem keepsLaw (v0 : Value) (l1 : List DAct) (v1 : Value) (l2 : List DAct) (v2 : Value) (kp : List Bool) (w : World) (ha : ActsIn w v0 l1 0 w.heap.size) (hb : ActsIn w v1 l2 0 w.heap.size) (hk : BoolsIn w v2 kp 0 w.heap.size) :
    Calls Try.prog 3 #[v0, v1, v2] w fun e w' => e = .returned (.bool true) ∧ Below w.heap.size w w' := by
  obtain ⟨p0, c0, rfl⟩ := RowsOf.shape ha
  obtain ⟨p1, c1, rfl⟩ := RowsOf.shape hb
  obtain ⟨p2, c2, rfl⟩ := hk.shape
  have hL1 : (l1.length : Int) ≤ 9223372036854775807 := by have := RowsOf.len ha; unfold maxLen at this; omega
  have hL2 : (l2.length : Int) ≤ 9223372036854775807 := by have := RowsOf.len hb; unfold maxLen at this; omega
  have hL3 : (kp.length : Int) ≤ 9223372036854775807 := by have := hk.len; unfold maxLen at this; omega
  have hnew := fun W => dNew 8 W (by omega) (by omega)
  have HNEW : Hid (∀ W, Calls Try.prog 7 #[.int .i64 8] W fun e w' => ∃ b sb mb lo, e = .returned (.tuple #[.pointer (some ⟨b, 0, none⟩), .int .i64 0]) ∧ DiskAt w' b sb mb lo d8 ∧ W.heap.size ≤ sb ∧ W.heap.size ≤ mb ∧ W.heap.size ≤ b ∧ Kept [] W w') := hnew
  obtain ⟨g1, g2, g3, g4, g5, g6⟩ := d8_facts
  have hF := putN_facts d8 l1 g4 g5
  have HF1 := Lib.hid hF
  have HO1 : Hid (d8.ops = 0 ∧ d8.waits.length = 0) := ⟨g6, by rw [g3]; rfl⟩
  have HG := Lib.hid g1
  have HA := Lib.hid ha
  have HB := Lib.hid hb
  have HK := Lib.hid hk
  clear hnew ha hb hk hF g1 g2 g3 g4 g5 g6
  go_enter Try.func3, Try.ntmps3
  go_wp2_with fail
  refine (HNEW.out _).mono ?_; rintro e w1 ⟨b, sb, mb, lo, rfl, d1, z1, z2, z3, k1⟩
  obtain ⟨hlo1, hlo2, _⟩ := d1.lo_
  have hlo : w.heap.size ≤ lo := by omega
  have DD1 := Lib.hid d1
  clear d1 hlo1 hlo2
  go_upto_block 0 with fail
  go_cut [9] (fun v9 wx => ∃ k : Nat, k ≤ 30 ∧ k ≤ l1.length ∧ DiskAt wx b sb mb lo (putN d8 l1 k) ∧ Kept [] w wx)
  case first =>
    go_wp2_with fail
    go_loopw [9] (fun i wr => ∃ k : Nat, k ≤ 30 ∧ k ≤ l1.length ∧ i = .int .i64 k ∧ DiskAt wr b sb mb lo (putN d8 l1 k) ∧ Kept [] w wr) (fun i _ => 30 - (intOf i).toNat)
    case atStart => exact ⟨0, by omega, by omega, rfl, DD1.out, k1⟩
    case round =>
      obtain ⟨k, hk1, hk2, rfl, hD, hK⟩ := hrel
      by_cases hlt : k < l1.length ∧ k < 30
      · obtain ⟨hlt1, hlt2⟩ := hlt
        have hA2 := ActsIn.kept HA.out hK (fun x hx => by cases hx)
        obtain ⟨ab, off, kv, rfl, q0, q1, q2, q3, q4, q5, q6, q7, q8, q9⟩ := hA2.at_ k hlt1
        have hpf := HF1.out k
        have hstep : putN d8 l1 (k + 1) = putD (putN d8 l1 k) l1[k].i (sectorL l1[k].s) := by
          show putD (putN d8 l1 k) (l1.getD k default).i (sectorL (l1.getD k default).s) = _
          rw [getD_of l1 k hlt1]
        obtain ⟨f1, f2, f3, f4, f5, f6⟩ := hpf
        have ho : (putN d8 l1 k).ops < 100000 := by have := HO1.out; omega
        have hw : (putN d8 l1 k).waits.length ≤ 10000 := by have := HO1.out; omega
        have g := fun W (hW : DiskAt W b sb mb lo (putN d8 l1 k)) => dPut b sb mb lo (putN d8 l1 k) l1[k].i (sectorL l1[k].s) W hW f3 f2 (sectorL_len _) ho hw
        have gs := fun W => dSector l1[k].s W q6.2.2.1
        have G := Lib.hid g
        have GS := Lib.hid gs
        have HS := Lib.hid hstep
        have HDD := Lib.hid hD
        have i1 : (k : Int) < l1.length := by omega
        have i2 : (k : Int) < 30 := by omega
        clear g gs hstep f1 f2 f3 f4 f5 f6 hA2 q0 q3 q4 q5 q6 hD ho hw
        generalize l1[k].i = ai at *
        generalize l1[k].s = as_ at *
        go_wp2_with fail
        go_region_with (first
          | (go_at_call 9; refine (GS.out _).mono ?_; rintro e w' ⟨rfl, rfl⟩)
          | (go_at_call 8; refine (G.out _ HDD.out.drew).mono ?_; rintro e w2 ⟨⟨x, rfl⟩, hD2, k2⟩))
        all_goals
          have hK2 := DKept.to_kept k2.of_drew hK z3 z1 z2 hlo
          rw [← HS.out] at hD2
          have HD2 := Lib.hid hD2
          clear hD2
          go_wp2_with fail
          go_roundw
          case rel => exact ⟨k + 1, by omega, by omega, by go_num, HD2.out, hK2⟩
          case measure => simp [intOf]; omega
      · go_wp2_with fail
        all_goals go_meet
        all_goals exact ⟨k, hk1, hk2, hD, hK⟩
  case rest =>
    obtain ⟨n1, hn1, hn2, hD, hK⟩ := hcut
    have hfl : flushed l1 n1 = settleD (opD (putN d8 l1 n1)) (fun _ => true) := rfl
    obtain ⟨f1, f2, f3, f4, f5, f6⟩ := HF1.out n1
    have hflush := dFlush b sb mb lo (putN d8 l1 n1) wc hD f3 (by omega) (by have := HO1.out; omega) (fun x hx => by
      rcases f6 x hx with h | ⟨h, _⟩
      · have := HO1.out.2
        rw [List.eq_nil_of_length_eq_zero this] at h; cases h
      · rw [f1]; exact h) (by have := HO1.out; omega)
    rw [← hfl] at hflush
    clear hfl f1 f2 f3 f4 f5 f6 hD HF1
    obtain ⟨e1, e2, e3, e4, e5, e6⟩ := flushed_facts l1 n1
    generalize flushed l1 n1 = D1 at *
    have HFL := Lib.hid hflush
    have hF := putN_facts D1 l2 e4 e5
    have HF2 := Lib.hid hF
    have HO2 : Hid (D1.ops ≤ 31 ∧ D1.waits.length = 0) := ⟨by omega, by rw [e3]; rfl⟩
    have HE1 := Lib.hid e1
    have HE2 := Lib.hid e2
    clear hflush hF e1 e2 e3 e4 e5 e6
    go_wp2_with fail
    refine HFL.out.mono ?_; rintro e w2 ⟨rfl, d2, k2⟩
    have hK2 := DKept.to_kept k2 hK z3 z1 z2 hlo
    have him := dImage b sb mb lo D1 w2 d2 (fun s hs => by rw [HE2.out s hs]; omega)
    have DD2 := Lib.hid d2
    clear d2 hK
    go_wp2_with fail
    refine him.mono ?_; rintro e w3 ⟨rfl, k3⟩
    have DD3 := Lib.hid (DD2.out.keep k3 (fun x hx => by cases hx))
    have hK3 := hK2.trans k3
    clear him
    generalize hI1 : D1.stand.flatten = I1
    have HI1 := Lib.hid hI1
    clear hI1
    go_upto_block 2 with fail
    go_cut [11] (fun v11 wx => ∃ k : Nat, k ≤ 30 ∧ k ≤ l2.length ∧ (k < l2.length → k = 30) ∧ DiskAt wx b sb mb lo (putN D1 l2 k) ∧ Kept [] w wx)
    case first =>
      go_wp2_with fail
      go_loopw [11] (fun i wr => ∃ k : Nat, k ≤ 30 ∧ k ≤ l2.length ∧ i = .int .i64 k ∧ DiskAt wr b sb mb lo (putN D1 l2 k) ∧ Kept [] w wr) (fun i _ => 30 - (intOf i).toNat)
      case atStart => exact ⟨0, by omega, by omega, rfl, DD3.out, hK3⟩
      case round =>
        obtain ⟨k, hk1, hk2, rfl, hD, hK⟩ := hrel
        by_cases hlt : k < l2.length ∧ k < 30
        · obtain ⟨hlt1, hlt2⟩ := hlt
          have hA2 := ActsIn.kept HB.out hK (fun x hx => by cases hx)
          obtain ⟨ab, off, kv, rfl, q0, q1, q2, q3, q4, q5, q6, q7, q8, q9⟩ := hA2.at_ k hlt1
          have hpf := HF2.out k
          have hstep : putN D1 l2 (k + 1) = putD (putN D1 l2 k) l2[k].i (sectorL l2[k].s) := by
            show putD (putN D1 l2 k) (l2.getD k default).i (sectorL (l2.getD k default).s) = _
            rw [getD_of l2 k hlt1]
          obtain ⟨f1, f2, f3, f4, f5, f6⟩ := hpf
          have ho : (putN D1 l2 k).ops < 100000 := by have := HO2.out; omega
          have hw : (putN D1 l2 k).waits.length ≤ 10000 := by have := HO2.out; omega
          have g := fun W (hW : DiskAt W b sb mb lo (putN D1 l2 k)) => dPut b sb mb lo (putN D1 l2 k) l2[k].i (sectorL l2[k].s) W hW f3 f2 (sectorL_len _) ho hw
          have gs := fun W => dSector l2[k].s W q6.2.2.1
          have G := Lib.hid g
          have GS := Lib.hid gs
          have HS := Lib.hid hstep
          have HDD := Lib.hid hD
          have i1 : (k : Int) < l2.length := by omega
          have i2 : (k : Int) < 30 := by omega
          clear g gs hstep f1 f2 f3 f4 f5 f6 hA2 q0 q3 q4 q5 q6 hD ho hw
          generalize l2[k].i = ai at *
          generalize l2[k].s = as_ at *
          go_wp2_with fail
          go_region_with (first
            | (go_at_call 9; refine (GS.out _).mono ?_; rintro e w' ⟨rfl, rfl⟩)
            | (go_at_call 8; refine (G.out _ HDD.out.drew).mono ?_; rintro e w2 ⟨⟨x, rfl⟩, hD2, k2⟩))
          all_goals
            have hK2 := DKept.to_kept k2.of_drew hK z3 z1 z2 hlo
            rw [← HS.out] at hD2
            have HD2 := Lib.hid hD2
            clear hD2
            go_wp2_with fail
            go_roundw
            case rel => exact ⟨k + 1, by omega, by omega, by go_num, HD2.out, hK2⟩
            case measure => simp [intOf]; omega
        · go_wp2_with fail
          all_goals go_meet
          all_goals exact ⟨k, hk1, hk2, by omega, hD, hK⟩
    case rest =>
      obtain ⟨n2, hn2, hn3, hn4, hD, hK⟩ := hcut
      have HN4 := Lib.hid hn4
      clear hn4
      have hF2 := HF2.out n2
      have hkf := keeps_fine D1 l2 n2 kp HE1.out HE2.out HO2.out.2 hF2
      obtain ⟨hnl1, hnl2⟩ := now_len D1 l2 n2 kp HE1.out HE2.out HO2.out.2 hF2
      obtain ⟨f1, f2, f3, f4, f5, f6⟩ := hF2
      have hpow := dPower b sb mb lo (putN D1 l2 n2) (.slice p2 kp.length c2) kp 0 w.heap.size wc hD (fun x hx => by
        rcases f6 x hx with h | ⟨h, _⟩
        · have := HO2.out.2
          rw [List.eq_nil_of_length_eq_zero this] at h; cases h
        · rw [f1]; exact h) (by have := HO2.out; omega) (HK.out.kept hK (fun x hx => by cases hx)) (Or.inr z1) HK.out.len
      have him := fun w hd => dImage b sb mb lo (powerD (putN D1 l2 n2) kp) w hd (fun s hs => by rw [hnl1 s hs]; omega)
      have hi1 : I1.length = 1024 := by rw [← HI1.out, flat_len _ HE2.out, HE1.out]
      rw [HI1.out] at hkf
      have HPO := Lib.hid hpow
      have HIM := Lib.hid him
      clear hpow him f1 f2 f3 f4 f5 f6 hD hnl1 HF2
      go_wp2_with fail
      refine HPO.out.mono ?_; rintro e w4 ⟨rfl, d4, k4⟩
      have hK4 := DKept.to_kept k4 hK z3 z1 z2 hlo
      have hih := HIM.out w4 d4
      generalize (powerD (putN D1 l2 n2) kp).stand.flatten = NOW at *
      go_wp2_with fail
      refine hih.mono ?_; rintro e w5 ⟨rfl, k5⟩
      have hK5 := hK4.trans k5
      have HB5 := Lib.hid (ActsIn.kept HB.out hK5 (fun x hx => by cases hx))
      have s1 : (bs NOW).size = 1024 := by rw [bs_size, hnl2]
      have s2 : (bs I1).size = 1024 := by rw [bs_size, hi1]
      have HKF := Lib.hid hkf
      clear hih hK4 k4 k5 hkf d4 HPO HIM
      go_wp2_with fail
      go_loop [13] (fun i => ∃ k : Nat, k ≤ 8 ∧ i = .int .i64 k) (fun i => 8 - (intOf i).toNat)
      case atStart => exact ⟨0, by omega, rfl⟩
      case round =>
        obtain ⟨k, hk, rfl⟩ := hrel
        by_cases hlt : k < 8
        · obtain ⟨q1, q2⟩ := HKF.out k hlt
          have hx2 : (bs NOW).extract (k * 128) (k * 128 + 128) = bs (cutS NOW k) := by have := extract_cut NOW k; rw [Nat.mul_comm] at this; exact this
          have hy2 : (bs I1).extract (k * 128) (k * 128 + 128) = bs (cutS I1 k) := by have := extract_cut I1 k; rw [Nat.mul_comm] at this; exact this
          have t1 : ((k : Int) * 128).toNat = k * 128 := by omega
          have t2 : ((k : Int) * 128 + 128).toNat = k * 128 + 128 := by omega
          have b1 : (k : Int) * 128 + 128 ≤ 1024 := by omega
          have b3 : (k : Int) < 8 := by omega
          have HLT := Lib.hid hlt
          have Q1 := Lib.hid q1
          have Q2 := Lib.hid q2
          clear q1 q2 hlt hk
          generalize cutS NOW k = X at *
          generalize cutS I1 k = Y at *
          go_wp2_with fail
          go_loop [15, 16] (fun f i => ∃ j : Nat, j ≤ n2 ∧ (kp.length = 0 → j = 0) ∧ i = .int .i64 j ∧ f = .bool (fineB ((bs X).toList == (bs Y).toList) l2 k X j)) (fun _ i => 30 - (intOf i).toNat)
          case atStart => exact ⟨0, by omega, fun _ => rfl, rfl, rfl⟩
          case round =>
            obtain ⟨j, hj, hj0, rfl, rfl⟩ := hrel
            have HJ0 := Lib.hid hj0
            clear hj0
            have hn4 := HN4.out
            have hstep : fineB ((bs X).toList == (bs Y).toList) l2 k X (j + 1) = (fineB ((bs X).toList == (bs Y).toList) l2 k X j || (decide ((l2.getD j default).i = k) && decide (X = sectorL (l2.getD j default).s))) := rfl
            by_cases hgo : j < l2.length ∧ j < 30 ∧ 0 < kp.length
            · obtain ⟨h1, h2, h3⟩ := hgo
              have hjn : j + 1 ≤ n2 := by omega
              clear hn4
              obtain ⟨ab, off, kv, rfl, y0, y1, y2, y3, y4, y5, y6, y7, y8, y9⟩ := HB5.out.at_ j h1
              rw [getD_of l2 j h1] at hstep
              have gs := fun W => dSector l2[j].s W y6.2.2.1
              have GS := Lib.hid gs
              have i1 : (j : Int) < l2.length := by omega
              have i2 : (j : Int) < 30 := by omega
              have i3 : (0 : Int) < kp.length := by omega
              clear gs y0 y3 y4 y5 y6
              generalize l2[j].i = ai at *
              generalize l2[j].s = as_ at *
              cases hf : fineB ((bs X).toList == (bs Y).toList) l2 k X j with
              | true =>
                rw [hf] at hstep
                have HS := Lib.hid hstep
                clear hstep hf
                go_wp2_with fail
                go_round
                case rel => exact ⟨j + 1, hjn, by omega, by go_num, by rw [HS.out]; rfl⟩
                case measure => simp [intOf]; omega
              | false =>
                rw [hf] at hstep
                have HF := Lib.hid hf
                by_cases hI : ai = (k : Int)
                · rw [decide_eq_true hI] at hstep
                  subst hI
                  by_cases hX : X = sectorL as_
                  · rw [decide_eq_true hX] at hstep
                    have hc : ((bs X).toList == (bs (sectorL as_)).toList) = true := by rw [hX]; simp
                    have HS := Lib.hid hstep
                    clear hstep hf hX
                    generalize sectorL as_ = T at *
                    go_wp2_with (go_at_call 9; refine (GS.out _).mono ?_; rintro e w' ⟨rfl, rfl⟩)
                    go_round
                    case rel => exact ⟨j + 1, hjn, by omega, by go_num, by rw [HS.out]; rfl⟩
                    case measure => simp [intOf]; omega
                  · rw [decide_eq_false hX] at hstep
                    have hc : ((bs X).toList == (bs (sectorL as_)).toList) = false := by rw [bs_toList, bs_toList]; simpa using hX
                    have HS := Lib.hid hstep
                    clear hstep hf hX
                    generalize sectorL as_ = T at *
                    go_wp2_with (go_at_call 9; refine (GS.out _).mono ?_; rintro e w' ⟨rfl, rfl⟩)
                    go_round
                    case rel => exact ⟨j + 1, hjn, by omega, by go_num, by rw [HS.out]; rfl⟩
                    case measure => simp [intOf]; omega
                · rw [decide_eq_false hI] at hstep
                  have hc : (ai == (k : Int)) = false := by rw [beq_eq_false_iff_ne]; exact hI
                  have HS := Lib.hid hstep
                  clear hstep hf hI
                  go_wp2_with fail
                  go_round
                  case rel => exact ⟨j + 1, hjn, by omega, by go_num, by rw [HS.out]; rfl⟩
                  case measure => simp [intOf]; omega
            · have hend : fineB ((bs X).toList == (bs Y).toList) l2 k X j = true := by
                by_cases h0 : kp.length = 0
                · have e0 := HJ0.out h0
                  subst e0
                  show ((bs X).toList == (bs Y).toList) = true
                  rw [Q1.out h0]; simp
                · have e0 : j = n2 := by
                    by_cases hh : j < l2.length
                    · omega
                    · omega
                  rw [e0]; exact Q2.out
              rw [hend]
              have hgo2 : l2.length ≤ j ∨ (j < l2.length ∧ 30 ≤ j) ∨ (j < l2.length ∧ j < 30 ∧ kp.length = 0) := by omega
              clear hstep hend hn4 hgo
              rcases hgo2 with h1 | ⟨h1, h2⟩ | ⟨h1, h2, h3⟩
              · have i1 : ¬ ((j : Int) < l2.length) := by omega
                go_wp2_with fail
                go_round
                case rel => exact ⟨k + 1, HLT.out, by go_num⟩
                case measure => (have hh := HLT.out; simp [intOf]; omega)
              · have i1 : (j : Int) < l2.length := by omega
                have i2 : ¬ ((j : Int) < 30) := by omega
                go_wp2_with fail
                go_round
                case rel => exact ⟨k + 1, HLT.out, by go_num⟩
                case measure => (have hh := HLT.out; simp [intOf]; omega)
              · have i1 : (j : Int) < l2.length := by omega
                have i2 : (j : Int) < 30 := by omega
                have i3 : ¬ ((0 : Int) < kp.length) := by omega
                clear h3
                go_wp2_with fail
                go_round
                case rel => exact ⟨k + 1, HLT.out, by go_num⟩
                case measure => (have hh := HLT.out; simp [intOf]; omega)
        · obtain rfl : k = 8 := by omega
          go_wp2_with fail
          refine (awakeD _).mono ?_; rintro e w9 ⟨rfl, kz⟩
          go_wp2_with fail
          go_ret
          exact ⟨rfl, (hK5.trans kz).below⟩
end Go.Proofs.Ytkhbobjfmedimaa
