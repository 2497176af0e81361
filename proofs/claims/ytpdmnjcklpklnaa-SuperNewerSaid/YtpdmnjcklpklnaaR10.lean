/- Walks of the reference of layer 11 (super): a superblock's sector. -/
import Derived.Test.YtpdmnjcklpklnaaR9
import Derived.Test.YtpdmnjcklpklnaaQ5
import Derived.Test.YtpdmnjcklpklnaaC3
import Derived.Deep.CutBlock
import Derived.Deep.DeepCutAuto
namespace Go.Proofs.Ytpdmnjcklpklnaa
open Go.RowKit
set_option linter.unusedVariables false
set_option linter.unusedSimpArgs false

/-- what stands ahead of the runs. -/
def preL (sq a b u z n : Nat) : List UInt8 := magicL ++ numL sq 8 ++ numL a 4 ++ numL b 4 ++ numL u 4 ++ numL z 4 ++ numL n 4
theorem preL_body (sq a b u z : Nat) (l : List (Int × Int)) (hl : l.length < 65536) : preL sq a b u z l.length ++ runsL l = (SB.mk sq a b u z l).body := by
  have e : numL l.length 4 = numL l.length 2 ++ numL 0 2 := by
    have h1 : l.length / 256 / 256 = 0 := by rw [Nat.div_div_eq_div_mul]; exact Nat.div_eq_of_lt hl
    simp only [numL]
    rw [h1]; rfl
  unfold preL SB.body
  rw [e]; simp [List.append_assoc]
theorem preL_len (sq a b u z n : Nat) : (preL sq a b u z n).length = 36 := by unfold preL; simp [numL_len, magicL]
theorem runsL_take (l : List (Int × Int)) (k : Nat) (h : k < l.length) : runsL (l.take (k + 1)) = runsL (l.take k) ++ numL l[k].1.toNat 2 ++ numL l[k].2.toNat 2 := by
  unfold runsL; rw [List.take_succ_eq_append_getElem h, List.map_append, List.flatten_append, List.append_assoc]
  congr 1
theorem u64_nat (n : Nat) (h : n < 18446744073709551616) : IntKind.u64.wrap (n : Int) = n := by
  have : IntKind.u64.wrap (n : Int) = (n : Int) % 18446744073709551616 := by simp [IntKind.wrap, IntKind.bits, IntKind.signed]
  rw [this]; omega

theorem rNum2 (n : Nat) (w : World) (hn : n < 18446744073709551616) :
    Calls Try.prog 37 #[.int .u64 n, .int .i64 2] w fun e w' => e = .returned (.string (bs (numL n 2))) ∧ Kept [] w w' := rNum 2 n w hn (by omega)
theorem rNum4 (n : Nat) (w : World) (hn : n < 18446744073709551616) :
    Calls Try.prog 37 #[.int .u64 n, .int .i64 4] w fun e w' => e = .returned (.string (bs (numL n 4))) ∧ Kept [] w w' := rNum 4 n w hn (by omega)
theorem rNum8 (n : Nat) (w : World) (hn : n < 18446744073709551616) :
    Calls Try.prog 37 #[.int .u64 n, .int .i64 8] w fun e w' => e = .returned (.string (bs (numL n 8))) ∧ Kept [] w w' := rNum 8 n w hn (by omega)

set_option maxRecDepth 100000 in
set_option maxHeartbeats 4000000 in
theorem rput' (sq a b u z : Nat) (l : List (Int × Int)) (v : Value) (lo hi : Nat) (w : World) (h : RunsIn w v l lo hi) (hq : sq < 18446744073709551616) (ha : a ≤ 8192) (hb : b ≤ 8192) (hu : u ≤ 1048576) (hz : z ≤ 1048576) (hl : l.length ≤ 16)
    (hok : ∀ k (hk : k < l.length), 0 ≤ l[k].1 ∧ l[k].1 ≤ 8192 ∧ 0 ≤ l[k].2 ∧ l[k].2 ≤ 8192) :
    Calls Try.prog 16 #[.agg #[.int .u64 (sq : Int), .int .i64 (a : Int), .int .i64 (b : Int), .int .i64 (u : Int), .int .i64 (z : Int), v]] w fun e w' => e = .returned (.string (bs (SB.mk sq a b u z l).sector)) ∧ Kept [] w w' := by
  obtain ⟨p, c, rfl⟩ := h.shape
  have HLO := Lib.hid hok
  clear hok
  have o := Own.new w #[.int .u64 (sq : Int), .int .i64 (a : Int), .int .i64 (b : Int), .int .i64 (u : Int), .int .i64 (z : Int), .slice p l.length c] 25
  have hW0 : Kept [] w (w.alloc (.cells #[.int .u64 (sq : Int), .int .i64 (a : Int), .int .i64 (b : Int), .int .i64 (u : Int), .int .i64 (z : Int), .slice p l.length c] 25)) := (Kept.refl _ _).alloc _
  have hN8 := fun (n : Nat) W (hn : n < 18446744073709551616) (hk : Kept [] (w.alloc (.cells #[.int .u64 (sq : Int), .int .i64 (a : Int), .int .i64 (b : Int), .int .i64 (u : Int), .int .i64 (z : Int), .slice p l.length c] 25)) W) => (rNum8 n W hn).mono fun e w' hh => (show e = .returned (.string (bs (numL n 8))) ∧ Kept [] (w.alloc (.cells #[.int .u64 (sq : Int), .int .i64 (a : Int), .int .i64 (b : Int), .int .i64 (u : Int), .int .i64 (z : Int), .slice p l.length c] 25)) w' ∧ (w'.cell? ⟨w.heap.size, 0, none⟩ = some (.int .u64 (sq : Int)) ∧ w'.cell? ⟨w.heap.size, 1, none⟩ = some (.int .i64 (a : Int)) ∧ w'.cell? ⟨w.heap.size, 2, none⟩ = some (.int .i64 (b : Int)) ∧ w'.cell? ⟨w.heap.size, 3, none⟩ = some (.int .i64 (u : Int)) ∧ w'.cell? ⟨w.heap.size, 4, none⟩ = some (.int .i64 (z : Int)) ∧ w'.cell? ⟨w.heap.size, 5, none⟩ = some (.slice p l.length c)) from ⟨hh.1, hk.trans hh.2, ((hk.trans hh.2).own o (by simp)).c6⟩)
  have hN4 := fun (n : Nat) W (hn : n < 18446744073709551616) (hk : Kept [] (w.alloc (.cells #[.int .u64 (sq : Int), .int .i64 (a : Int), .int .i64 (b : Int), .int .i64 (u : Int), .int .i64 (z : Int), .slice p l.length c] 25)) W) => (rNum4 n W hn).mono fun e w' hh => (show e = .returned (.string (bs (numL n 4))) ∧ Kept [] (w.alloc (.cells #[.int .u64 (sq : Int), .int .i64 (a : Int), .int .i64 (b : Int), .int .i64 (u : Int), .int .i64 (z : Int), .slice p l.length c] 25)) w' ∧ (w'.cell? ⟨w.heap.size, 0, none⟩ = some (.int .u64 (sq : Int)) ∧ w'.cell? ⟨w.heap.size, 1, none⟩ = some (.int .i64 (a : Int)) ∧ w'.cell? ⟨w.heap.size, 2, none⟩ = some (.int .i64 (b : Int)) ∧ w'.cell? ⟨w.heap.size, 3, none⟩ = some (.int .i64 (u : Int)) ∧ w'.cell? ⟨w.heap.size, 4, none⟩ = some (.int .i64 (z : Int)) ∧ w'.cell? ⟨w.heap.size, 5, none⟩ = some (.slice p l.length c)) from ⟨hh.1, hk.trans hh.2, ((hk.trans hh.2).own o (by simp)).c6⟩)
  have hN2 := fun (n : Nat) W (hn : n < 18446744073709551616) (hk : Kept [] (w.alloc (.cells #[.int .u64 (sq : Int), .int .i64 (a : Int), .int .i64 (b : Int), .int .i64 (u : Int), .int .i64 (z : Int), .slice p l.length c] 25)) W) => (rNum2 n W hn).mono fun e w' hh => (show e = .returned (.string (bs (numL n 2))) ∧ Kept [] (w.alloc (.cells #[.int .u64 (sq : Int), .int .i64 (a : Int), .int .i64 (b : Int), .int .i64 (u : Int), .int .i64 (z : Int), .slice p l.length c] 25)) w' ∧ (w'.cell? ⟨w.heap.size, 0, none⟩ = some (.int .u64 (sq : Int)) ∧ w'.cell? ⟨w.heap.size, 1, none⟩ = some (.int .i64 (a : Int)) ∧ w'.cell? ⟨w.heap.size, 2, none⟩ = some (.int .i64 (b : Int)) ∧ w'.cell? ⟨w.heap.size, 3, none⟩ = some (.int .i64 (u : Int)) ∧ w'.cell? ⟨w.heap.size, 4, none⟩ = some (.int .i64 (z : Int)) ∧ w'.cell? ⟨w.heap.size, 5, none⟩ = some (.slice p l.length c)) from ⟨hh.1, hk.trans hh.2, ((hk.trans hh.2).own o (by simp)).c6⟩)
  have s0 : (bs (numL sq 8)).size = 8 := by rw [bs_size, numL_len]
  have s1 : (bs (numL a 4)).size = 4 := by rw [bs_size, numL_len]
  have s2 : (bs (numL b 4)).size = 4 := by rw [bs_size, numL_len]
  have s3 : (bs (numL u 4)).size = 4 := by rw [bs_size, numL_len]
  have s4 : (bs (numL z 4)).size = 4 := by rw [bs_size, numL_len]
  have s5 : (bs (numL l.length 4)).size = 4 := by rw [bs_size, numL_len]
  have hpre : bs magicL ++ bs (numL sq 8) ++ bs (numL a 4) ++ bs (numL b 4) ++ bs (numL u 4) ++ bs (numL z 4) ++ bs (numL l.length 4) = bs (preL sq a b u z l.length) := by
    simp only [bs_append]; rfl
  have HPRE := Lib.hid hpre
  have h0 := fun W hk => hN8 sq W hq hk
  have h1 := fun W hk => hN4 a W (by omega) hk
  have h2 := fun W hk => hN4 b W (by omega) hk
  have h3 := fun W hk => hN4 u W (by omega) hk
  have h4 := fun W hk => hN4 z W (by omega) hk
  have h5 := fun W hk => hN4 l.length W (by omega) hk
  have H0 := Lib.hid h0
  have H1 := Lib.hid h1
  have H2 := Lib.hid h2
  have H3 := Lib.hid h3
  have H4 := Lib.hid h4
  have H5 := Lib.hid h5
  have w1 := u64_nat a (by omega)
  have w2 := u64_nat b (by omega)
  have w3 := u64_nat u (by omega)
  have w4 := u64_nat z (by omega)
  have w5 := u64_nat l.length (by omega)
  have HN2 := Lib.hid hN2
  clear hN8 hN4 hN2 hpre h0 h1 h2 h3 h4 h5
  generalize bs (numL sq 8) = N0 at *
  generalize bs (numL a 4) = N1 at *
  generalize bs (numL b 4) = N2 at *
  generalize bs (numL u 4) = N3 at *
  generalize bs (numL z 4) = N4 at *
  generalize bs (numL l.length 4) = N5 at *
  obtain ⟨d0, d1, d2, d3, d4, d5⟩ := o.c6
  go_enter Try.func16, Try.ntmps16
  go_upto_region 1 with fail
  go_cut [3] (fun v3 wx => v3 = .string (bs (preL sq a b u z l.length)) ∧ Kept [] (w.alloc (.cells #[.int .u64 (sq : Int), .int .i64 (a : Int), .int .i64 (b : Int), .int .i64 (u : Int), .int .i64 (z : Int), .slice p l.length c] 25)) wx)
  case first =>
    go_region_held3 (fun w' => w'.cell? ⟨w.heap.size, 0, none⟩ = some (.int .u64 (sq : Int)) ∧ w'.cell? ⟨w.heap.size, 1, none⟩ = some (.int .i64 (a : Int)) ∧ w'.cell? ⟨w.heap.size, 2, none⟩ = some (.int .i64 (b : Int)) ∧ w'.cell? ⟨w.heap.size, 3, none⟩ = some (.int .i64 (u : Int)) ∧ w'.cell? ⟨w.heap.size, 4, none⟩ = some (.int .i64 (z : Int)) ∧ w'.cell? ⟨w.heap.size, 5, none⟩ = some (.slice p l.length c)) (go_keep)
      (first
        | (go_at_call 37; ((with_reducible refine (H0.out _ ?_).mono ?_)); (first | exact Kept.refl _ _ | exact (Kept.refl _ _).drew | exact (Kept.refl _ _).drewN _); rintro e w1 ⟨rfl, kk0, q0, q1, q2, q3, q4, q5⟩)
        | (go_at_call 37; ((with_reducible refine (H1.out _ ?_).mono ?_)); (first | exact kk0 | exact kk0.drew | exact kk0.drewN _); rintro e w1 ⟨rfl, kk1, q0, q1, q2, q3, q4, q5⟩)
        | (go_at_call 37; ((with_reducible refine (H2.out _ ?_).mono ?_)); (first | exact kk1 | exact kk1.drew | exact kk1.drewN _); rintro e w1 ⟨rfl, kk2, q0, q1, q2, q3, q4, q5⟩)
        | (go_at_call 37; ((with_reducible refine (H3.out _ ?_).mono ?_)); (first | exact kk2 | exact kk2.drew | exact kk2.drewN _); rintro e w1 ⟨rfl, kk3, q0, q1, q2, q3, q4, q5⟩)
        | (go_at_call 37; ((with_reducible refine (H4.out _ ?_).mono ?_)); (first | exact kk3 | exact kk3.drew | exact kk3.drewN _); rintro e w1 ⟨rfl, kk4, q0, q1, q2, q3, q4, q5⟩)
        | (go_at_call 37; ((with_reducible refine (H5.out _ ?_).mono ?_)); (first | exact kk4 | exact kk4.drew | exact kk4.drewN _); rintro e w1 ⟨rfl, kk5, q0, q1, q2, q3, q4, q5⟩))
    all_goals go_wp2_with fail
    all_goals go_meet
    all_goals exact ⟨by rw [← HPRE.out]; rfl, by first | exact kk5 | exact kk5.drew | exact kk5.drewN _⟩
  case rest =>
    obtain ⟨rfl, hkc⟩ := hcut
    have ho := hkc.own o (by simp)
    obtain ⟨d0, d1, d2, d3, d4, d5⟩ := ho.c6
    clear H0 H1 H2 H3 H4 H5 HPRE s0 s1 s2 s3 s4 s5 w1 w2 w3 w4 w5
    have hpl := preL_len sq a b u z l.length
    have hbody := preL_body sq a b u z l (by omega)
    have hbl := body_len (SB.mk sq a b u z l)
    have hfill := fun w => rFill (bs (SB.mk sq a b u z l).body) 124 w (by rw [bs_size, hbl]; simp only; omega) (by omega)
    rw [bs_data] at hfill
    have hfl := fill_len (SB.mk sq a b u z l).body (by rw [hbl]; simp only; omega)
    have hsum := fun w => rsum (bs (fillL (SB.mk sq a b u z l).body 124)) w (by rw [bs_size, hfl]; omega)
    rw [bs_data] at hsum
    have hcrc := crc_lt (fillL (SB.mk sq a b u z l).body 124)
    have hlast := fun w => rNum4 (crc (fillL (SB.mk sq a b u z l).body 124)) w (by omega)
    have hsec : Hid (bs (fillL (SB.mk sq a b u z l).body 124) ++ bs (numL (crc (fillL (SB.mk sq a b u z l).body 124)) 4) = bs (SB.mk sq a b u z l).sector) := by
      show bs _ ++ bs _ = _; rw [bs_append]; rfl
    have hz1 : (bs (fillL (SB.mk sq a b u z l).body 124)).size = 124 := by rw [bs_size, hfl]
    have hz2 : (bs (numL (crc (fillL (SB.mk sq a b u z l).body 124)) 4)).size = 4 := by rw [bs_size, numL_len]
    have HB := Lib.hid hbody
    have HPL := Lib.hid hpl
    clear hbody hpl hbl hfl
    generalize hSEC : (SB.mk sq a b u z l).sector = SEC at *
    have HSEC := Lib.hid hSEC
    clear hSEC
    generalize crc (fillL (SB.mk sq a b u z l).body 124) = cr at *
    generalize fillL (SB.mk sq a b u z l).body 124 = FL at *
    go_wp2_with fail
    go_loopw [3, 4] (fun t i wr => ∃ k : Nat, k ≤ l.length ∧ i = .int .i64 k ∧ t = .string (bs (preL sq a b u z l.length ++ runsL (l.take k))) ∧ Kept [] w wr ∧ Kept [] (w.alloc (.cells #[.int .u64 (sq : Int), .int .i64 (a : Int), .int .i64 (b : Int), .int .i64 (u : Int), .int .i64 (z : Int), .slice p l.length c] 25)) wr) (fun _ i _ => l.length - (intOf i).toNat)
    case atStart => exact ⟨0, by omega, rfl, by simp [runsL], hW0.trans hkc, hkc⟩
    case round =>
      obtain ⟨k, hk, rfl, rfl, hK, hK2⟩ := hrel
      obtain ⟨d0, d1, d2, d3, d4, d5⟩ := (hK2.own o (by simp)).c6
      by_cases hlt : k < l.length
      · obtain ⟨b', off, rfl, c0, c1, hb', hlc, hcm⟩ := (h.kept0 hK).at_ k hlt
        have hbd := HLO.out k hlt
        have hrt := runsL_take l k hlt
        obtain ⟨n1, hn1⟩ := Int.eq_ofNat_of_zero_le hbd.1
        obtain ⟨n2, hn2⟩ := Int.eq_ofNat_of_zero_le hbd.2.2.1
        rw [hn1] at c0 hrt hbd
        rw [hn2] at c1 hrt hbd
        rw [Int.toNat_natCast, Int.toNat_natCast] at hrt
        have hstr : Hid (bs (preL sq a b u z l.length ++ runsL (l.take k)) ++ bs (numL n1 2) ++ bs (numL n2 2) = bs (preL sq a b u z l.length ++ runsL (l.take (k + 1)))) := by
          show _ = _; rw [bs_append, bs_append, hrt]; simp only [List.append_assoc]
        have e1 := u64_nat n1 (by omega)
        have e2 := u64_nat n2 (by omega)
        have y1 : (bs (numL n1 2)).size = 2 := by rw [bs_size, numL_len]
        have y2 : (bs (numL n2 2)).size = 2 := by rw [bs_size, numL_len]
        have y0 : (bs (preL sq a b u z l.length ++ runsL (l.take k))).size ≤ 1000 := by rw [bs_size, List.length_append, HPL.out, runsL_len, List.length_take]; omega
        have hh := fun (n : Nat) W (hn : n < 18446744073709551616) (hkx : Kept [] wr W) => (rNum2 n W hn).mono fun e w' hh => (show e = .returned (.string (bs (numL n 2))) ∧ Kept [] wr w' ∧ (w'.cell? ⟨w.heap.size, 5, none⟩ = some (.slice (some ⟨b', off, none⟩) l.length c) ∧ w'.cell? ⟨b', off + k * 2, none⟩ = some (.int .i64 (n1 : Int)) ∧ w'.cell? ⟨b', off + k * 2 + 1, none⟩ = some (.int .i64 (n2 : Int))) from ⟨hh.1, hkx.trans hh.2, by
          have hkx2 := hkx.trans hh.2
          refine ⟨((hK2.trans hkx2).own o (by simp)).c6.2.2.2.2.2, ?_, ?_⟩
          · rw [hkx2.cell hb' (by simp)]; exact c0
          · rw [hkx2.cell hb' (by simp)]; exact c1⟩)
        have g1 := fun W hk => hh n1 W (by omega) hk
        have g2 := fun W hk => hh n2 W (by omega) hk
        have G1 := Lib.hid g1
        have G2 := Lib.hid g2
        have i1 : (k : Int) < l.length := by omega
        clear hrt hn1 hn2 hh g1 g2 d0 d1 d2 d3 d4
        generalize bs (preL sq a b u z l.length ++ runsL (l.take k)) = T0 at *
        generalize hT1 : bs (preL sq a b u z l.length ++ runsL (l.take (k + 1))) = T1 at *
        have HT1 := Lib.hid hT1
        clear hT1
        generalize bs (numL n1 2) = M1 at *
        generalize bs (numL n2 2) = M2 at *
        have yy : (T0 ++ M1).size = T0.size + M1.size := ByteArray.size_append
        have qc1 : ∀ W, (Op.stringOp .add T0 M1).run Try.prog W = .ok (.string (T0 ++ M1)) W := fun W => by first | (simp [Op.stringOp]; omega)
        have qc2 : ∀ W, (Op.stringOp .add (T0 ++ M1) M2).run Try.prog W = .ok (.string (T0 ++ M1 ++ M2)) W := fun W => by first | (simp [Op.stringOp]; omega)
        clear yy
        go_wp2_with fail
        go_region_held3 (fun w' => w'.cell? ⟨w.heap.size, 5, none⟩ = some (.slice (some ⟨b', off, none⟩) l.length c) ∧ w'.cell? ⟨b', off + k * 2, none⟩ = some (.int .i64 (n1 : Int)) ∧ w'.cell? ⟨b', off + k * 2 + 1, none⟩ = some (.int .i64 (n2 : Int))) (go_keep)
          (first
            | (go_at_call 37; ((with_reducible refine (G1.out _ ?_).mono ?_)); (first | exact Kept.refl _ _ | exact (Kept.refl _ _).drew | exact (Kept.refl _ _).drewN _); rintro e w1 ⟨rfl, kk1, q0, q1, q2⟩)
            | (go_at_call 37; ((with_reducible refine (G2.out _ ?_).mono ?_)); (first | exact kk1 | exact kk1.drew | exact kk1.drewN _); rintro e w1 ⟨rfl, kk2, q0, q1, q2⟩))
        all_goals go_wp2_with fail
        all_goals go_roundw
        all_goals first
          | exact ⟨k + 1, by omega, by go_num, by rw [HT1.out, ← hstr.out], hK.trans (by first | exact kk2 | exact kk2.drew), hK2.trans (by first | exact kk2 | exact kk2.drew)⟩
          | (simp [intOf]; omega)
      · obtain rfl : k = l.length := by omega
        have ef : preL sq a b u z l.length ++ runsL (l.take l.length) = (SB.mk sq a b u z l).body := by rw [List.take_length]; exact HB.out
        rw [ef] at *
        clear ef
        generalize (SB.mk sq a b u z l).body = BD at *
        have e3 := u64_nat cr (by omega)
        go_wp2_with fail
        refine (hfill _).mono ?_; rintro e w3 ⟨rfl, hk3⟩
        go_wp2_with fail
        refine (hsum _).mono ?_; rintro e w4 ⟨rfl, hk4⟩
        go_wp2_with fail
        refine (hlast _).mono ?_; rintro e w5 ⟨rfl, hk5⟩
        go_wp2_with fail
        go_ret
        exact ⟨by rw [HSEC.out, ← hsec.out]; rfl, ((hK.trans hk3).trans hk4).trans hk5⟩
end Go.Proofs.Ytpdmnjcklpklnaa
