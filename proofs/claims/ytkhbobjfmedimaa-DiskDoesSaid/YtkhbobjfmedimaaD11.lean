/- Walks of layer 9 (disk): the image; the page's example. -/
import Derived.Test.YtkhbobjfmedimaaD10
import Derived.Test.YtkhbobjfmedimaaBytes
namespace Go.Proofs.Ytkhbobjfmedimaa
open Go.RowKit Go.Maps
set_option linter.unusedVariables false
set_option linter.unusedSimpArgs false

set_option maxRecDepth 100000 in
theorem dImage (b sb mb lo : Nat) (d : DK) (w : World) (h : DiskAt w b sb mb lo d) (hm : ∀ s ∈ d.stand, s.length ≤ 128) : Calls Try.prog 11 #[.pointer (some ⟨b, 0, none⟩)] w fun e w' => e = .returned (.string (bs d.stand.flatten)) ∧ Kept [] w w' := by
  obtain ⟨p, c, c0, c1, c2, c3, c4, c5, h1, h2, h3⟩ := h.six
  obtain ⟨wv, n, o, os, _⟩ := h
  have hj := dJoin sb d.stand w os h1 h2 hm
  clear os o
  go_enter Try.func11, Try.ntmps11
  go_wp2_with fail
  refine hj.mono ?_; rintro e w1 ⟨rfl, k1⟩
  go_wp2_with fail
  go_ret
  exact ⟨rfl, k1⟩

theorem DKept.to_kept {b sb mb lo : Nat} {w w1 w' : World} (h : DKept b sb mb lo w1 w') (k : Kept [] w w1) (h1 : w.heap.size ≤ b) (h2 : w.heap.size ≤ sb) (h3 : w.heap.size ≤ mb) (h4 : w.heap.size ≤ lo) : Kept [] w w' := by
  obtain ⟨a1, a2, a3, a4, a5⟩ := h
  exact ⟨a1.trans k.os, a2.trans k.tape, a3.trans k.output, Nat.le_trans k.size a4, fun j hj _ => (a5 j (Nat.lt_of_lt_of_le hj k.size) (by omega) (by omega) (by omega) (Or.inl (by omega))).trans (k.block j hj (by simp))⟩
theorem BoolsIn.nil (w : World) : BoolsIn w (.slice none 0 0) [] 0 0 := Or.inl ⟨rfl, _, _, rfl⟩
set_option maxRecDepth 100000 in
set_option maxHeartbeats 2000000 in
theorem awakeD (w : World) : Calls Try.prog 13 #[] w fun e w' => e = .returned (.bool true) ∧ Kept [] w w' := by
  have hnew := fun W => dNew 3 W (by omega) (by omega)
  have hsa : ∀ W, Calls Try.prog 9 #[.string ⟨#[97]⟩] W fun e w' => e = .returned (.string (bs (sectorL [97]))) ∧ W = w' := fun W => dSector [97] W (by decide)
  have hsb : ∀ W, Calls Try.prog 9 #[.string ⟨#[98]⟩] W fun e w' => e = .returned (.string (bs (sectorL [98]))) ∧ W = w' := fun W => dSector [98] W (by decide)
  have la := sectorL_len [97]
  have lb := sectorL_len [98]
  have lz : zeroS.length = 128 := by unfold zeroS; simp
  have hmk := run_make_bytes128
  have hcv := run_conv128
  rw [show List.replicate 3 zeroS = [zeroS, zeroS, zeroS] from rfl] at hnew
  generalize sectorL [97] = A at *
  generalize sectorL [98] = B at *
  generalize zeroS = Z at *
  go_enter Try.func13, Try.ntmps13
  go_wp2_with fail
  refine (hnew _).mono ?_; rintro e w1 ⟨b, sb, mb, lo, rfl, d1, z1, z2, z3, k1⟩
  go_wp2_with fail
  refine (hsa _).mono ?_; rintro e w' ⟨rfl, rfl⟩
  go_wp2_with fail
  have hlo : w.heap.size ≤ lo := by obtain ⟨_, _, _, _, _, _, _, _, _, _, h5, _⟩ := d1; omega
  have g1 : Calls Try.prog 8 #[.pointer (some ⟨b, 0, none⟩), .int .i64 1, .string (bs A)] w1 fun e w' => e = .returned (.int .i64 0) ∧ DiskAt w' b sb mb lo ⟨[Z, Z, Z], [(1, A)], -1, 1, false⟩ ∧ DKept b sb mb lo w1 w' := dWrite b sb mb lo (newD [Z, Z, Z]) 1 A w1 d1 rfl (by show 1 < 3; decide) la (by show 0 < 100000; decide) (by show 0 ≤ 10000; decide)
  refine g1.mono ?_; rintro e w2 ⟨rfl, d2, k2⟩
  clear g1 d1
  go_wp2_with fail
  have g2 : Calls Try.prog 12 #[.pointer (some ⟨b, 0, none⟩), .slice none 0 0] w2 fun e w' => e = .returned (.tuple #[]) ∧ DiskAt w' b sb mb lo ⟨[Z, Z, Z], [], -1, 1, false⟩ ∧ DKept b sb mb lo w2 w' := dPower b sb mb lo _ (.slice none 0 0) [] 0 0 w2 d2 (by intro x hx; simp at hx; subst hx; show 1 < 3; decide) (by show 1 ≤ 10000; decide) (BoolsIn.nil _) (Or.inr (Nat.zero_le _)) (by decide)
  refine g2.mono ?_; rintro e w3 ⟨rfl, d3, k3⟩
  clear g2 d2
  go_wp2_with fail
  have g3 : Calls Try.prog 20 #[.pointer (some ⟨b, 0, none⟩), .int .i64 1] w3 fun e w' => e = .returned (.tuple #[.string (bs Z), .int .i64 0]) ∧ w3 = w' := dRead b sb mb lo _ 1 w3 d3 rfl (by show 1 < 3; decide)
  refine g3.mono ?_; rintro e w' ⟨rfl, rfl⟩
  clear g3
  go_wp2_with fail
  refine (hsb _).mono ?_; rintro e w' ⟨rfl, rfl⟩
  go_wp2_with fail
  have g4 : Calls Try.prog 8 #[.pointer (some ⟨b, 0, none⟩), .int .i64 1, .string (bs B)] w3 fun e w' => e = .returned (.int .i64 0) ∧ DiskAt w' b sb mb lo ⟨[Z, Z, Z], [(1, B)], -1, 2, false⟩ ∧ DKept b sb mb lo w3 w' := dWrite b sb mb lo _ 1 B w3 d3 rfl (by show 1 < 3; decide) lb (by show 1 < 100000; decide) (by show 0 ≤ 10000; decide)
  refine g4.mono ?_; rintro e w4 ⟨rfl, d4, k4⟩
  clear g4 d3
  go_wp2_with fail
  have g5 : Calls Try.prog 10 #[.pointer (some ⟨b, 0, none⟩)] w4 fun e w' => e = .returned (.int .i64 0) ∧ DiskAt w' b sb mb lo ⟨[Z, B, Z], [], -1, 3, false⟩ ∧ DKept b sb mb lo w4 w' := dFlush b sb mb lo _ w4 d4 rfl (by show (-1 : Int) ≠ 0; decide) (by show 2 < 100000; decide) (by intro x hx; simp at hx; subst hx; show 1 < 3; decide) (by show 1 ≤ 10000; decide)
  refine g5.mono ?_; rintro e w5 ⟨rfl, d5, k5⟩
  clear g5 d4
  go_wp2_with fail
  have g6 : Calls Try.prog 12 #[.pointer (some ⟨b, 0, none⟩), .slice none 0 0] w5 fun e w' => e = .returned (.tuple #[]) ∧ DiskAt w' b sb mb lo ⟨[Z, B, Z], [], -1, 3, false⟩ ∧ DKept b sb mb lo w5 w' := dPower b sb mb lo _ (.slice none 0 0) [] 0 0 w5 d5 (by intro x hx; cases hx) (by show 0 ≤ 10000; decide) (BoolsIn.nil _) (Or.inr (Nat.zero_le _)) (by decide)
  refine g6.mono ?_; rintro e w6 ⟨rfl, d6, k6⟩
  clear g6 d5
  go_wp2_with fail
  have g7 : Calls Try.prog 20 #[.pointer (some ⟨b, 0, none⟩), .int .i64 1] w6 fun e w' => e = .returned (.tuple #[.string (bs B), .int .i64 0]) ∧ w6 = w' := dRead b sb mb lo _ 1 w6 d6 rfl (by show 1 < 3; decide)
  refine g7.mono ?_; rintro e w' ⟨rfl, rfl⟩
  clear g7
  have hK6 : Kept [] w w6 := DKept.to_kept (((((k2.trans k3).trans k4).trans k5).trans k6)) k1 z3 z1 z2 hlo
  have kz := (Kept.refl [] w6).alloc (.cells (Array.replicate 128 (.int .u8 0)) 5)
  have d7 := d6.keep kz (fun x hx => by cases hx)
  have hK7 := hK6.trans kz
  have him : Calls Try.prog 11 #[.pointer (some ⟨b, 0, none⟩)] (w6.alloc (.cells (Array.replicate 128 (.int .u8 0)) 5)) fun e w' => e = .returned (.string (bs [Z, B, Z].flatten)) ∧ Kept [] (w6.alloc (.cells (Array.replicate 128 (.int .u8 0)) 5)) w' := dImage b sb mb lo _ _ d7 (by intro s hs; simp at hs; rcases hs with rfl | rfl | rfl <;> omega)
  have hsz : (bs [Z, B, Z].flatten).size = 384 := by rw [bs_size]; simp [lz, lb]
  generalize [Z, B, Z].flatten = I at him hsz
  have HIM := Lib.hid him
  clear him k1 k2 k3 k4 k5 k6 hnew d6
  go_wp2_with fail
  refine (hsb _).mono ?_; rintro e w' ⟨rfl, rfl⟩
  go_wp2_with fail
  refine HIM.out.mono ?_; rintro e w8 ⟨rfl, k8⟩
  have d8 := d7.keep k8 (fun x hx => by cases hx)
  have hop : Calls Try.prog 17 #[.pointer (some ⟨b, 0, none⟩)] w8 fun e w' => e = .returned (.int .i64 3) ∧ w8 = w' := dOps b sb mb lo _ w8 d8
  go_wp2_with fail
  refine hop.mono ?_; rintro e w' ⟨rfl, rfl⟩
  go_wp2_with fail
  go_ret
  exact ⟨rfl, hK7.trans k8⟩
end Go.Proofs.Ytkhbobjfmedimaa
