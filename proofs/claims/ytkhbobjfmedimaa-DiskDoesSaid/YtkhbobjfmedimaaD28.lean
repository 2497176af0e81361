/- Walks of chapter 9's statement: any calls of a disk, wherever its power goes. -/
import Derived.Test.YtkhbobjfmedimaaD27
import Derived.Test.YtkhbobjfmedimaaD16
namespace Go.Proofs.Ytkhbobjfmedimaa
open Go.RowKit Go.Maps
set_option linter.unusedVariables false
set_option linter.unusedSimpArgs false

set_option maxRecDepth 100000 in
set_option maxHeartbeats 4000000 in
theorem dSame (W0 w : World) (b sb mb lo r rlo : Nat) (d : DK) (h : Both W0 w b sb mb lo r rlo (nrm d) d) :
    Calls Try.prog 23 #[.pointer (some ⟨b, 0, none⟩), .pointer (some ⟨r, 0, none⟩)] w fun e w' => e = .returned (.bool true) ∧ Both W0 w' b sb mb lo r rlo (nrm d) d := by
  have hl : ∀ W, Both W0 W b sb mb lo r rlo (nrm d) d → Calls Try.prog 19 #[.pointer (some ⟨b, 0, none⟩)] W fun e w' => e = .returned (.int .i64 d.stand.length) ∧ W = w' := fun W hW => dLen b sb mb lo (nrm d) W hW.alone.disk
  have hdn : ∀ W, Both W0 W b sb mb lo r rlo (nrm d) d → Calls Try.prog 18 #[.pointer (some ⟨b, 0, none⟩)] W fun e w' => e = .returned (.bool d.down) ∧ W = w' := fun W hW => dDown b sb mb lo (nrm d) W hW.alone.disk
  have hwt : ∀ W, Both W0 W b sb mb lo r rlo (nrm d) d → Calls Try.prog 16 #[.pointer (some ⟨b, 0, none⟩)] W fun e w' => e = .returned (.int .i64 d.waits.length) ∧ W = w' := fun W hW => dWaits b sb mb lo (nrm d) W hW.alone.disk
  have hop : ∀ W, Both W0 W b sb mb lo r rlo (nrm d) d → Calls Try.prog 17 #[.pointer (some ⟨b, 0, none⟩)] W fun e w' => e = .returned (.int .i64 d.ops) ∧ W = w' := fun W hW => dOps b sb mb lo (nrm d) W hW.alone.disk
  have him : ∀ W, Both W0 W b sb mb lo r rlo (nrm d) d → Calls Try.prog 11 #[.pointer (some ⟨b, 0, none⟩)] W fun e w' => e = .returned (.string (bs d.stand.flatten)) ∧ Both W0 w' b sb mb lo r rlo (nrm d) d ∧ Kept [] W w' := fun W hW => hW.dImage
  have hqi : ∀ W, Both W0 W b sb mb lo r rlo (nrm d) d → Calls Try.prog 41 #[.pointer (some ⟨r, 0, none⟩)] W fun e w' => e = .returned (.string (bs d.stand.flatten)) ∧ W = w' := fun W hW => hW.qImage
  obtain ⟨l1, l2, l3, l4⟩ := h.lt
  obtain ⟨p, c, p', c', c0, c1, c2, c3, c4, _⟩ := h.ref.five
  have HL := Lib.hid hl
  have HDN := Lib.hid hdn
  have HW := Lib.hid hwt
  have HO := Lib.hid hop
  have HI := Lib.hid him
  have HQ := Lib.hid hqi
  have H0 := Lib.hid h
  clear hl hdn hwt hop him hqi h
  generalize bs d.stand.flatten = IMG at *
  generalize d.stand.length = n at *
  generalize d.waits.length = m at *
  go_enter Try.func23, Try.ntmps23
  go_wp2_with fail
  go_region_held3 (fun w' => w'.cell? ⟨r, 0, none⟩ = some (.slice p n c) ∧ w'.cell? ⟨r, 1, none⟩ = some (.slice p' m c') ∧ w'.cell? ⟨r, 3, none⟩ = some (.int .i64 d.ops) ∧ w'.cell? ⟨r, 4, none⟩ = some (.bool d.down)) (go_keep)
    (first
      | (go_at_call 19; ((with_reducible refine (HL.out _ ?_).mono ?_)); (exact H0.out.drew); rintro e w' ⟨rfl, rfl⟩)
      | (go_at_call 18; ((with_reducible refine (HDN.out _ ?_).mono ?_)); (exact H0.out.drew); rintro e w' ⟨rfl, rfl⟩)
      | (go_at_call 16; ((with_reducible refine (HW.out _ ?_).mono ?_)); (exact H0.out.drew); rintro e w' ⟨rfl, rfl⟩)
      | (go_at_call 17; ((with_reducible refine (HO.out _ ?_).mono ?_)); (exact H0.out.drew); rintro e w' ⟨rfl, rfl⟩)
      | (go_at_call 11; ((with_reducible refine (HI.out _ ?_).mono ?_)); (exact H0.out.drew); rintro e w2 ⟨rfl, h2, k2⟩; have x0 := (k2.cell (a := ⟨r, 0, none⟩) (by exact l4) (by simp)).trans c0; have x1 := (k2.cell (a := ⟨r, 1, none⟩) (by exact l4) (by simp)).trans c1; have x3 := (k2.cell (a := ⟨r, 3, none⟩) (by exact l4) (by simp)).trans c3; have x4 := (k2.cell (a := ⟨r, 4, none⟩) (by exact l4) (by simp)).trans c4)
      | (go_at_call 41; ((with_reducible refine (HQ.out _ ?_).mono ?_)); (exact h2); rintro e w' ⟨rfl, rfl⟩))
  all_goals go_wp2_with fail
  all_goals go_ret
  all_goals exact ⟨rfl, h2⟩
theorem aNext_bd (d : DK) (a : DAct) : (aNext d a).ops ≤ d.ops + 1 ∧ (aNext d a).waits.length ≤ d.waits.length + 1 := by
  unfold aNext
  repeat' split
  · omega
  · unfold fNext
    split
    · omega
    · split
      · exact ⟨Nat.le_refl _, Nat.le_succ _⟩
      · exact ⟨Nat.le_refl _, Nat.zero_le _⟩
  · exact ⟨Nat.le_succ _, Nat.le_succ _⟩
  · exact ⟨Nat.le_succ _, Nat.zero_le _⟩
  · unfold sNext
    split
    · exact ⟨Nat.le_succ _, Nat.le_succ _⟩
    · omega
  · unfold wNext
    split
    · refine ⟨Nat.le_refl _, ?_⟩
      show (d.waits ++ [_]).length ≤ _
      rw [List.length_append, List.length_singleton]; omega
    · omega
theorem aNew_no (n : Int) (w : World) (h : n < 1 ∨ 8192 < n) :
    Calls Try.prog 7 #[.int .i64 n] w fun e w' => e = .returned (.tuple #[.pointer none, .int .i64 5]) ∧ w = w' := by
  rcases (by omega : n < 1 ∨ (1 ≤ n ∧ 8192 < n)) with h1 | ⟨h1, h2⟩
  all_goals
    clear h
    go_enter Try.func7, Try.ntmps7
    go_wp2_with fail
    go_ret2
    exact ⟨rfl, rfl⟩
set_option maxRecDepth 100000 in
set_option maxHeartbeats 4000000 in
theorem doesLaw (n : Int) (v1 : Value) (l : List DAct) (w : World) (hn : (Lit.int .i64 n).wf = true) (ha : ActsIn w v1 l 0 w.heap.size) :
    Calls Try.prog 5 #[.int .i64 n, v1] w fun e w' => e = .returned (.bool true) ∧ Below w.heap.size w w' := by
  obtain ⟨p1, c1, rfl⟩ := RowsOf.shape ha
  have hL1 : (l.length : Int) ≤ 9223372036854775807 := by have := RowsOf.len ha; unfold maxLen at this; omega
  rcases (by omega : (n < 1 ∨ (1 ≤ n ∧ 8192 < n)) ∨ (1 ≤ n ∧ n ≤ 8192)) with h1 | ⟨h1, h2⟩
  · have hno := fun W => aNew_no n W (by omega)
    have HNO := Lib.hid hno
    clear hno ha hn
    rcases h1 with h1 | ⟨h1, h2⟩
    all_goals
      go_enter Try.func5, Try.ntmps5
      go_wp2_with fail
      refine (HNO.out _).mono ?_; rintro e w' ⟨rfl, rfl⟩
      go_wp2_with fail
      refine (awakeD _).mono ?_; rintro e w9 ⟨rfl, kz⟩
      go_wp2_with fail
      go_ret
      exact ⟨rfl, kz.below⟩
  · obtain ⟨m, rfl⟩ := Int.eq_ofNat_of_zero_le (show 0 ≤ n by omega)
    have hnew := fun W => aNew m W (by omega) (by omega)
    have HNEW := Lib.hid hnew
    have HA := Lib.hid ha
    clear hnew ha hn
    by_cases h40 : m ≤ 40
    · have hq := fun W => qNew m W (by omega) (by omega)
      have HQ := Lib.hid hq
      have i1 : ¬ ((40 : Int) < m) := by omega
      clear hq
      go_enter Try.func5, Try.ntmps5
      go_wp2_with fail
      refine (HNEW.out _).mono ?_; rintro e w1 ⟨b, sb, mb, lo, rfl, A1⟩
      have A1h := Lib.hid A1
      clear A1
      go_wp2_with fail
      refine (HQ.out _).mono ?_; rintro e w2 ⟨rfl, R2, k2⟩
      have hB := Both.of A1h.out R2 k2 (Fit.new m)
      have hB2 : Both w w2 b sb mb lo w1.heap.size w1.heap.size (nrm (newD (List.replicate m zeroS))) (newD (List.replicate m zeroS)) := hB
      have HB := Lib.hid hB2
      have HOP : Hid ((newD (List.replicate m zeroS)).ops = 0 ∧ (newD (List.replicate m zeroS)).waits.length = 0) := ⟨rfl, rfl⟩
      clear hB hB2 R2 k2
      generalize newD (List.replicate m zeroS) = D0 at *
      generalize w1.heap.size = r at *
      go_wp2_with fail
      go_loopw [8] (fun i wr => ∃ (k : Nat) (d : DK), k ≤ 60 ∧ k ≤ l.length ∧ i = .int .i64 k ∧ Both w wr b sb mb lo r r (nrm d) d ∧ d.ops ≤ k ∧ d.waits.length ≤ k) (fun i _ => 60 - (intOf i).toNat)
      case atStart => exact ⟨0, D0, by omega, by omega, rfl, HB.out, by have := HOP.out; omega, by have := HOP.out; omega⟩
      case round =>
        obtain ⟨k, d, hk1, hk2, rfl, hBo, hop, hwt⟩ := hrel
        have HBO := Lib.hid hBo
        rcases (by omega : (k < l.length ∧ k < 60) ∨ (l.length ≤ k) ∨ (k < l.length ∧ 60 ≤ k)) with ⟨g1, g2⟩ | g1 | ⟨g1, g2⟩
        · have hA2 := ActsIn.kept HA.out hBo.alone.kept (fun x hx => by cases hx)
          obtain ⟨ab, off, kv, rfl, q0, q1, q2, q3, q4, q5, q6, q7, q8, q9⟩ := hA2.at_ k g1
          have hbd := aNext_bd d l[k]
          obtain ⟨wf1, wf2, wf3, wf4⟩ := q6
          obtain ⟨ab', off', kv', e', y0, y1, y2, y3, y4, y5, _⟩ := HA.out.at_ k g1
          injection e' with e'
          injection e' with e1 e2 _
          subst e1 e2
          have hkv : kv' = kv := by
            have h1 := hBo.alone.kept.cell (a := ⟨ab, off + k * 5 + 4, none⟩) (by show ab < _; exact q8) (by simp)
            rw [q4, y4] at h1
            injection h1 with h1
            exact h1.symm
          subst hkv
          obtain ⟨pk, ck, rfl⟩ := y5.shape
          have hdo : l[k].s.length ≤ 400 → Calls Try.prog 22 #[.pointer (some ⟨b, 0, none⟩), .pointer (some ⟨r, 0, none⟩), .agg (actArr l[k] (.slice pk l[k].keep.length ck))] wr (DoesSays w b sb mb lo r r d l[k]) := fun h4 => dDoes w wr b sb mb lo r r d l[k] _ hBo y5 ⟨wf1, wf2, wf3, wf4⟩ h4 (by omega) (by omega)
          have hsa := fun (W : World) (hW : Both w W b sb mb lo r r (nrm (aNext d l[k])) (aNext d l[k])) => dSame w W b sb mb lo r r (aNext d l[k]) hW
          have i2 : (k : Int) < l.length := by omega
          have i3 : (k : Int) < 60 := by omega
          have HDO := Lib.hid hdo
          have HSA := Lib.hid hsa
          have HBD : Hid ((aNext d l[k]).ops ≤ k + 1 ∧ (aNext d l[k]).waits.length ≤ k + 1) := ⟨by omega, by omega⟩
          have hz : (bs l[k].s).size = l[k].s.length := bs_size _
          unfold actArr at HDO
          have hkl : (l[k].keep.length : Int) ≤ 9223372036854775807 := by unfold maxLen at wf4; omega
          have hsl : (l[k].s.length : Int) ≤ 9223372036854775807 := by unfold maxLen at wf3; omega
          unfold DoesSays at HDO
          clear hdo hsa hbd y0 y1 y2 y3 y4 y5 hA2 q5 wf1 wf2 wf3 wf4 hBo
          generalize aNext d l[k] = ND at *
          generalize l[k].kind = ak at *
          generalize l[k].i = ai at *
          generalize l[k].s = as_ at *
          generalize l[k].full = af at *
          generalize l[k].keep.length = kl at *
          rcases (by omega : 400 < as_.length ∨ (as_.length ≤ 400 ∧ 100 < kl) ∨ (as_.length ≤ 400 ∧ kl ≤ 100)) with j1 | ⟨j1, j2⟩ | ⟨j1, j2⟩
          · have j3 : (400 : Int) < as_.length := by omega
            go_wp2_with fail
            refine (awakeD _).mono ?_; rintro e w9 ⟨rfl, kz⟩
            go_wp2_with fail
            go_ret
            exact ⟨rfl, (HBO.out.alone.kept.trans kz).below⟩
          · have j3 : ¬ ((400 : Int) < as_.length) := by omega
            have j4 : (100 : Int) < kl := by omega
            go_wp2_with fail
            refine (awakeD _).mono ?_; rintro e w9 ⟨rfl, kz⟩
            go_wp2_with fail
            go_ret
            exact ⟨rfl, (HBO.out.alone.kept.trans kz).below⟩
          · have j3 : ¬ ((400 : Int) < as_.length) := by omega
            have j4 : ¬ ((100 : Int) < kl) := by omega
            have hd2 := HDO.out j1
            have HD2 := Lib.hid hd2
            clear hd2 HDO
            go_wp2_with (first
              | (go_at_call 22; refine HD2.out.mono ?_; rintro e w3 ⟨rfl, h3⟩)
              | (go_at_call 23; refine (HSA.out _ h3).mono ?_; rintro e w4 ⟨rfl, h4⟩))
            go_roundw
            case rel => exact ⟨k + 1, ND, by omega, by omega, by go_num, h4, HBD.out.1, HBD.out.2⟩
            case measure => simp [intOf]; omega
        · have i2 : ¬ ((k : Int) < l.length) := by omega
          clear hBo
          go_wp2_with fail
          refine (awakeD _).mono ?_; rintro e w9 ⟨rfl, kz⟩
          go_wp2_with fail
          go_ret
          exact ⟨rfl, (HBO.out.alone.kept.trans kz).below⟩
        · have i2 : (k : Int) < l.length := by omega
          have i3 : ¬ ((k : Int) < 60) := by omega
          clear hBo
          go_wp2_with fail
          refine (awakeD _).mono ?_; rintro e w9 ⟨rfl, kz⟩
          go_wp2_with fail
          go_ret
          exact ⟨rfl, (HBO.out.alone.kept.trans kz).below⟩
    · have i1 : (40 : Int) < m := by omega
      go_enter Try.func5, Try.ntmps5
      go_wp2_with fail
      refine (HNEW.out _).mono ?_; rintro e w1 ⟨b, sb, mb, lo, rfl, A1⟩
      have A1h := Lib.hid A1
      clear A1
      go_wp2_with fail
      refine (awakeD _).mono ?_; rintro e w9 ⟨rfl, kz⟩
      go_wp2_with fail
      go_ret
      exact ⟨rfl, (A1h.out.kept.trans kz).below⟩
end Go.Proofs.Ytkhbobjfmedimaa
