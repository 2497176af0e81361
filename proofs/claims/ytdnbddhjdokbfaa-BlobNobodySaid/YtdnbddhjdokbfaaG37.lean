/- Layer 12 (blob): BlobFits's and BlobNobody's walks. -/
import Derived.Test.YtdnbddhjdokbfaaG30
import Derived.Test.YtdnbddhjdokbfaaG36
namespace Go.Proofs.Ytdnbddhjdokbfaa
open Go.RowKit Go.Shelf
set_option linter.unusedVariables false
set_option linter.unusedSimpArgs false

theorem numsAt_of_row {w : World} {base : Nat} {v : Value} {al : List Nat} (h : w.ownsRow base 3 1 v al.length (intsV al)) : NumsAt w v al := by
  rcases h.2 with ⟨rfl, h0⟩ | ⟨g, c, cur, rfl, h1, h2, h3, h4, _⟩
  · refine ⟨none, 0, by rw [h0], by omega, by unfold maxLen; omega, fun k hk => absurd hk (by omega)⟩
  · refine ⟨_, c, rfl, h3, h4, fun k hk => ⟨g, 0, rfl, ?_, lt_of_block h2⟩⟩
    have := h.cells (g := g) rfl k (.int .i64 ((al[k] : Nat) : Int)) (by simp [intsV, hk])
    rw [addr_add] at this
    rw [Nat.zero_add]
    exact this
set_option maxRecDepth 100000 in
theorem bcopy_nil (pa : Option Addr) (na ca : Nat) (pb : Option Addr) (nb cb : Nat) (size : Int) (w : World) : Calls Try.prog 16 #[.pointer none, .slice pa na ca, .slice pb nb cb, .int .i64 size] w fun e w' => e = .returned (.int .i64 4) ∧ Kept [] w w' := by
  have hl := fun v W => bcheck_nil v size W
  have o0 := Own.new w #[.slice pa na ca, .slice pb nb cb] 22
  have k0 := (Kept.refl [] w).alloc (.cells #[.slice pa na ca, .slice pb nb cb] 22)
  obtain ⟨c0, c1⟩ := o0.c2
  go_enter Try.func16, Try.ntmps16
  go_wp2_with fail
  refine wp_loop_rounds 3 ?_
  rw [rounds_succ]
  go_wp2_with fail
  refine (hl _ _).mono ?_; rintro e w1 ⟨rfl, rfl⟩
  go_wp2_with fail
  go_ret
  exact ⟨rfl, k0⟩
set_option maxRecDepth 100000 in
set_option maxHeartbeats 2000000 in
theorem blobNobodyLaw (v : Value) (l0 : List (Int × Int)) (s : ByteArray) (w : World) (h0 : RunsIn w v l0 0 w.heap.size) (hwf0 : ∀ a ∈ l0, WfRun a) (hs : s.size ≤ maxLen) :
    Calls Try.prog 4 #[v, .string s] w fun e w' => e = .returned (.bool true) ∧ Below w.heap.size w w' := by
  have hf := bfew v l0 0 w.heap.size w h0
  have hg := fun v W => bget_nil v s.size W
  have hp := fun v W => bput_nil v s W
  have hc := fun pa na ca pb nb cb W => bcopy_nil pa na ca pb nb cb 1 W
  have haw := awakeV
  clear h0 hwf0 hs
  go_enter Try.func4, Try.ntmps4
  go_wp2_with fail
  refine hf.mono ?_; rintro e w' ⟨⟨v1, rfl, hR⟩, rfl⟩
  obtain ⟨p1, c1, rfl⟩ := hR.shape
  clear hf hR
  go_wp2_with fail
  refine (hg _ _).mono ?_; rintro e w1 ⟨rfl, k1⟩
  go_wp2_with fail
  refine (hp _ _).mono ?_; rintro e w' ⟨rfl, rfl⟩
  go_wp2_with fail
  refine (hc _ _ _ _ _ _ _).mono ?_; rintro e w2 ⟨rfl, k2⟩
  go_wp2_with fail
  refine (haw _).mono ?_; rintro e w3 ⟨rfl, k3⟩
  have hk := ((k1.trans k2).trans k3).below
  go_wp2_with fail
  go_ret
  exact ⟨rfl, hk⟩
set_option maxRecDepth 100000 in
set_option maxHeartbeats 4000000 in
theorem blobFitsLaw (v : Value) (l0 : List (Int × Int)) (n size stop : Int) (w : World) (h0 : RunsIn w v l0 0 w.heap.size) (hwf0 : ∀ a ∈ l0, WfRun a) (hn : (Lit.int .i64 n).wf = true) (hs : (Lit.int .i64 size).wf = true) (hst : (Lit.int .u8 stop).wf = true) :
    Calls Try.prog 3 #[v, .int .i64 n, .int .i64 size, .int .u8 stop] w fun e w' => e = .returned (.bool true) ∧ Below w.heap.size w w' := by
  have hf := bfew v l0 0 w.heap.size w h0
  obtain ⟨m, rfl⟩ : ∃ m : Nat, stop = (m : Int) := by
    simp only [Lit.wf, Bool.and_eq_true, decide_eq_true_eq] at hst
    have h1 : (0 : Int) ≤ stop := hst.1
    exact ⟨stop.toNat, by omega⟩
  have hm : m ≤ 255 := by
    simp only [Lit.wf, Bool.and_eq_true, decide_eq_true_eq] at hst
    have h2 : (m : Int) ≤ 255 := hst.2
    omega
  have hwf : ∀ a ∈ l0.take 20, WfRun a := fun a ha => hwf0 a (List.mem_of_mem_take ha)
  have hl : (l0.take 20).length ≤ 1000000 := by have := List.length_take_le 20 l0; omega
  generalize l0.take 20 = l at *
  have HT : Hid (∀ v W, RunsIn W v l 0 w.heap.size → ∀ k : Nat, k ≤ 100000 → Calls Try.prog 8 #[v, .int .i64 k] W (ToldSays l k W)) := Lib.hid (fun v W h k hk => btold v l k 0 w.heap.size W h hl hwf hk)
  have HL : Hid (∀ v W, RunsIn W v l 0 w.heap.size → Calls Try.prog 9 #[v] W fun e w' => ∃ u, e = .returned u ∧ w'.ownsRow W.heap.size 3 1 u (secsE l).length (intsV (secsE l)) ∧ Kept [] W w') := Lib.hid (fun v W h => qList v l 0 w.heap.size W h hl hwf)
  have HF : Hid (∀ v W, RunsIn W v l 0 w.heap.size → Calls Try.prog 10 #[v, .int .i64 n, .int .i64 size] W (FitSays l n size W)) := Lib.hid (fun v W h => bFit v l n size 0 w.heap.size W h hl hwf hn hs)
  have HQ : Hid (∀ v W, RunsIn W v l 0 w.heap.size → Calls Try.prog 11 #[v, .int .i64 n, .int .i64 size] W (FitSays l n size W)) := Lib.hid (fun v W h => qFit v l n size 0 w.heap.size W h hl hwf hn hs)
  have hle := secsE_le l
  have htk : (secsE l).take 9000 = secsE l := List.take_of_length_le (by omega)
  clear hwf hl hwf0 hn hs hst h0
  unfold ToldSays at HT
  generalize secsE l = al at *
  go_enter Try.func3, Try.ntmps3
  go_wp2_with fail
  refine hf.mono ?_; rintro e w' ⟨⟨v1, rfl, hR⟩, rfl⟩
  have hT1 := HT.out v1 w hR 9000 (by decide)
  go_wp2_with fail
  refine hT1.mono ?_; rintro e w1 ⟨u1, rfl, r1, k1⟩
  rw [htk] at r1
  obtain ⟨t, ht⟩ : ∃ t : Nat, min (al.length : Int) (m : Int) = (t : Int) := ⟨min al.length m, by omega⟩
  have htl : t ≤ al.length := by omega
  have htk2 : al.take m = al.take t := by
    rcases (by omega : t = m ∨ (t = al.length ∧ al.length ≤ m)) with e | ⟨e, e'⟩
    · rw [e]
    · rw [e, List.take_length, List.take_of_length_le e']
  have htn : (al.take t).length = t := by rw [List.length_take]; omega
  have hT2 := HT.out v1 w1 (hR.kept0 k1) m (by omega)
  clear hT1 hf
  go_wp2_with fail
  refine hT2.mono ?_; rintro e w2 ⟨u2, rfl, r2, k2⟩
  rw [htk2, htn] at r2
  have k12 := k1.trans k2
  have hL := HL.out v1 w2 (hR.kept0 k12)
  clear hT2
  go_wp2_with fail
  refine hL.mono ?_; rintro e w3 ⟨u3, rfl, r3, k3⟩
  have k13 := k12.trans k3
  have hF := HF.out v1 w3 (hR.kept0 k13)
  clear hL
  have NA := numsAt_of_row r1
  have NB : NumsAt w2 u2 (al.take t) := numsAt_of_row (by rw [htn]; exact r2)
  have NC := numsAt_of_row r3
  obtain ⟨p1, c1, rfl⟩ := own_shape r1
  obtain ⟨p2, c2, rfl⟩ := own_shape r2
  obtain ⟨p3, c3, rfl⟩ := own_shape r3
  clear r1 r2 r3
  go_wp2_with fail
  refine hF.mono ?_; rintro e w4 ⟨q1, rfl, hq1, k4⟩
  have k14 := k13.trans k4
  have hQ := HQ.out v1 w4 (hR.kept0 k14)
  clear hF
  go_wp2_with fail
  refine hQ.mono ?_; rintro e w5 ⟨q2, rfl, hq2, k5⟩
  have k15 := k14.trans k5
  clear hQ
  obtain rfl : q1 = q2 := Bool.eq_iff_iff.2 (hq1.trans hq2.symm)
  clear hq1 hq2
  have hs1 := vsame _ _ al w5 (NA.kept0 (k2.trans (k3.trans (k4.trans k5)))) (NC.kept0 (k4.trans k5)) (by omega)
  go_wp2_with fail
  refine hs1.mono ?_; rintro e w6 ⟨rfl, k6⟩
  have k16 := k15.trans k6
  have NC2 := NC.take t htl
  have hs2 := vsame _ _ (al.take t) w6 (NB.kept0 (k3.trans (k4.trans (k5.trans k6)))) (NC2.kept0 (k4.trans (k5.trans k6))) (by rw [List.length_take]; omega)
  obtain ⟨p', c', e', hc1, hc2, hcx⟩ := id NC
  injection e' with e1' _ e3'
  subst e1' e3'
  clear hcx
  have htc : (t : Int) ≤ al.length := by omega
  have htd : (t : Int) ≤ c3 := by omega
  have haw := awakeV
  clear NA NB NC NC2 hs1
  go_wp2_with fail
  refine hs2.mono ?_; rintro e w7 ⟨rfl, k7⟩
  go_wp2_with fail
  refine (haw _).mono ?_; rintro e w8 ⟨rfl, k8⟩
  have hk := ((k16.trans k7).trans k8).below
  go_wp2_with fail
  go_ret
  exact ⟨rfl, hk⟩
end Go.Proofs.Ytdnbddhjdokbfaa
