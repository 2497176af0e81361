/- -/
import Derived.Test.YtdkimcnlhmhpgaaGreatH32
import Derived.Deep.RegionHeld3
set_option linter.unusedVariables false
set_option linter.unusedSimpArgs false
namespace Go.Proofs.YtdkimcnlhmhpgaaGreat
open Go.RowKit
theorem textL_len (l : List UInt8) : (textL l).length = 4 + l.length := by unfold textL; rw [List.length_append, numL_len]
theorem recL_1 (i z : Nat) (name : List UInt8) (runs : List (Int × Int)) : recL ⟨1, i, name, z, runs⟩ = numL 1 1 ++ (numL i 4 ++ (numL z 4 ++ qrunsL runs)) := by
 unfold recL
 rw [show kId (JRec.mk 1 i name z runs).kind = true from rfl, show kName (JRec.mk 1 i name z runs).kind = false from rfl, show kBlob (JRec.mk 1 i name z runs).kind = true from rfl]
 simp
set_option maxRecDepth 100000 in
set_option maxHeartbeats 4000000 in
theorem jbytes_1 (i z : Nat) (name : List UInt8) (runs : List (Int × Int)) (v : Value) (lo hi : Nat) (w : World) (h : RunsIn w v runs lo hi) (hi1 : i < 4294967296) (hz1 : z ≤ 1048576) (hnm : name.length ≤ 48) (hrf : RunsFit runs) :
  Calls Tryz.prog 101 #[.agg #[.int .i64 1, .int .u32 (i : Int), .string (bs name), .int .i64 (z : Int), v]] w fun e w' => e = .returned (.string (bs (recL ⟨1, i, name, z, runs⟩))) ∧ Kept [] w w' := by
 obtain ⟨p, c, rfl⟩ := h.shape
 obtain ⟨hl16, hlo⟩ := hrf
 have hj : ∀ W, Calls Tryz.prog 169 #[.int .i64 1] W fun e w' => e = .returned (.tuple #[.bool true, .bool false, .bool true]) ∧ W = w' := fun W => jhas 1 W
 have h8 : ∀ W, Calls Tryz.prog 174 #[.int .u8 1] W fun e w' => e = .returned (.string (bs (numL 1 1))) ∧ Kept [] W w' := fun W => packU8 1 W (by decide)
 have h32 := fun W => packU32 i W hi1
 skip
 have o0 := Own.new w #[.int .i64 1, .int .u32 (i : Int), .string (bs name), .int .i64 (z : Int), .slice p runs.length c] 102
 have k0 : Kept [] w (w.alloc (.cells #[.int .i64 1, .int .u32 (i : Int), .string (bs name), .int .i64 (z : Int), .slice p runs.length c] 102)) := (Kept.refl _ _).alloc _
 have hre := recL_1 i z name runs
 have s1 : (bs (numL 1 1)).size = 1 := by rw [bs_size, numL_len]
 have s2 : (bs (numL i 4)).size ≤ 60 := by rw [bs_size]; rw [numL_len]; omega
 have hl' : (runs.length : Int) ≤ 16 := by omega
 have RE := Lib.hid hre
 have HJ := Lib.hid hj
 have H8 := Lib.hid h8
 have H32 := Lib.hid h32
 have H := Lib.hid h
 have HLO := Lib.hid hlo
 clear hre hj h8 h32 h hlo
 go_enter Tryz.func101, Tryz.ntmps101
 go_wp2_with fail
 refine (HJ.out _).mono ?_; rintro e w' ⟨rfl, rfl⟩
 go_wp2_with fail
 refine (H8.out _).mono ?_; rintro e w1 ⟨rfl, k1⟩
 have o1 := k1.own o0 (by simp)
 obtain ⟨a0, a1, a2, a3, a4⟩ := o1.c5
 go_wp2_with fail
 refine (H32.out _).mono ?_; rintro e w2 ⟨rfl, k2⟩
 have oP := k2.own o1 (by simp)
 obtain ⟨b0, b1, b2, b3, b4⟩ := oP.c5
 have kP := (k0.trans k1).trans k2
 clear a0 a1 a2 a3 a4 o1 o0 HJ H8 H32
 go_wp2_with fail
 generalize hT0 : bs (numL 1 1) ++ bs (numL i 4) = T0 at *
 have HT0 : Hid (T0 = bs (numL 1 1 ++ numL i 4)) := Lib.hid (by rw [← hT0, bs_append])
 have t0 : T0.size ≤ 100 := by rw [HT0.out, bs_size]; simp [numL_len, textL_len]; try omega
 clear hT0
 have hstart : Hid (T0 ++ (bs (numL z 4) ++ bs (numL runs.length 2)) = bs ((numL 1 1 ++ numL i 4) ++ (numL z 4 ++ (numL runs.length 2 ++ jrunsL (runs.take 0))))) := Lib.hid (by
  rw [HT0.out, bs_append, bs_append]
  simp [jrunsL])
 have y1 : (bs (numL z 4)).size = 4 := by rw [bs_size, numL_len]
 have y2 : (bs (numL runs.length 2)).size = 2 := by rw [bs_size, numL_len]
 have hz := fun W => packU32 z W (by omega)
 have hn := fun W => packU16 runs.length W (by omega)
 have HZ := Lib.hid hz
 have HN := Lib.hid hn
 have e1 := ju32_nat z (by omega)
 have e2 := ju16_nat runs.length (by omega)
 clear hz hn
 generalize bs (numL z 4) = M1 at *
 generalize bs (numL runs.length 2) = M2 at *
 have yy : (M1 ++ M2).size = M1.size + M2.size := ByteArray.size_append
 have qc1 : ∀ W, (Op.stringOp .add M1 M2).run Tryz.prog W = .ok (.string (M1 ++ M2)) W := fun W => by first | (simp [Op.stringOp]; omega)
 have qc2 : ∀ W, (Op.stringOp .add T0 (M1 ++ M2)).run Tryz.prog W = .ok (.string (T0 ++ (M1 ++ M2))) W := fun W => by first | (simp [Op.stringOp]; omega)
 clear yy
 have kk := kP.drew
 have ob := oP.drew
 go_region_held3 (fun W => W.cell? ⟨w.heap.size, 3, none⟩ = some (.int .i64 (z : Int)) ∧ W.cell? ⟨w.heap.size, 4, none⟩ = some (.slice p runs.length c)) (go_keep)
  (first
   | (go_at_call 102; ((with_reducible refine (HZ.out _).mono ?_)); rintro e w' ⟨rfl, k'⟩; have kk := kk.trans k'; have ob := k'.own ob (by simp); obtain ⟨c0, c1, c2, c3, c4⟩ := ob.c5)
   | (go_at_call 100; ((with_reducible refine (HN.out _).mono ?_)); rintro e w' ⟨rfl, k'⟩; have kk := kk.trans k'; have ob := k'.own ob (by simp); obtain ⟨c0, c1, c2, c3, c4⟩ := ob.c5))
 all_goals
  clear qc1 qc2 e1 e2
  have hs := (show Hid (w'.heap.size = w'.heap.size) from rfl)
  go_wp2_with fail
  go_loopw [6, 48] (fun t ii wr => ∃ k : Nat, k ≤ runs.length ∧ ii = .int .i64 k ∧ t = .string (bs ((numL 1 1 ++ numL i 4) ++ (numL z 4 ++ (numL runs.length 2 ++ jrunsL (runs.take k))))) ∧ Kept [] w wr) (fun _ ii _ => runs.length - (intOf ii).toNat)
  case atStart => exact ⟨0, by omega, rfl, congrArg Value.string hstart.out, kk⟩
  case round =>
   obtain ⟨k, hk, rfl, rfl, hK⟩ := hrel
   by_cases hlt : k < runs.length
   ·obtain ⟨b', off, rfl, g0, g1, hb', hlc, hcm⟩ := (H.out.kept0 hK).at_ k hlt
    have hbd := HLO.out k hlt
    have hrt := jrunsL_take runs k hlt
    obtain ⟨n1, hn1⟩ := Int.eq_ofNat_of_zero_le hbd.1
    obtain ⟨n2, hn2⟩ := Int.eq_ofNat_of_zero_le hbd.2.2.1
    rw [hn1] at g0 hrt hbd
    rw [hn2] at g1 hrt hbd
    rw [Int.toNat_natCast, Int.toNat_natCast] at hrt
    have hstr : Hid (bs ((numL 1 1 ++ numL i 4) ++ (numL z 4 ++ (numL runs.length 2 ++ jrunsL (runs.take k)))) ++ (bs (numL n1 2) ++ bs (numL n2 2)) = bs ((numL 1 1 ++ numL i 4) ++ (numL z 4 ++ (numL runs.length 2 ++ jrunsL (runs.take (k + 1)))))) := by
     show _ = _; rw [bs_append, bs_append, hrt]; simp only [List.append_assoc]
    have e1 := ju16_nat n1 (by omega)
    have e2 := ju16_nat n2 (by omega)
    have y1 : (bs (numL n1 2)).size = 2 := by rw [bs_size, numL_len]
    have y2 : (bs (numL n2 2)).size = 2 := by rw [bs_size, numL_len]
    have y0 : (bs ((numL 1 1 ++ numL i 4) ++ (numL z 4 ++ (numL runs.length 2 ++ jrunsL (runs.take k))))).size ≤ 1000 := by rw [bs_size]; simp [numL_len, textL_len, jrunsL_len]; omega
    have h1 := fun W => packU16 n1 W (by omega)
    have h2 := fun W => packU16 n2 W (by omega)
    have G1 := Lib.hid h1
    have G2 := Lib.hid h2
    have i1 : (k : Int) < runs.length := by omega
    have HLT := Lib.hid hlt
    have oR := Own.new wr #[.int .i64 (n1 : Int), .int .i64 (n2 : Int)] 128
    have kR : Kept [] w (wr.alloc (.cells #[.int .i64 (n1 : Int), .int .i64 (n2 : Int)] 128)) := hK.alloc _
    clear hrt hn1 hn2 h1 h2
    generalize bs ((numL 1 1 ++ numL i 4) ++ (numL z 4 ++ (numL runs.length 2 ++ jrunsL (runs.take k)))) = S0 at *
    generalize hT1 : bs ((numL 1 1 ++ numL i 4) ++ (numL z 4 ++ (numL runs.length 2 ++ jrunsL (runs.take (k + 1))))) = T1 at *
    have HT1 := Lib.hid hT1
    clear hT1
    generalize bs (numL n1 2) = N1 at *
    generalize bs (numL n2 2) = N2 at *
    have yy : (N1 ++ N2).size = N1.size + N2.size := ByteArray.size_append
    have qc1 : ∀ W, (Op.stringOp .add N1 N2).run Tryz.prog W = .ok (.string (N1 ++ N2)) W := fun W => by first | (simp [Op.stringOp]; omega)
    have qc2 : ∀ W, (Op.stringOp .add S0 (N1 ++ N2)).run Tryz.prog W = .ok (.string (S0 ++ (N1 ++ N2))) W := fun W => by first | (simp [Op.stringOp]; omega)
    clear yy
    go_wp2_with fail
    have kq := kR.drew
    have oq := oR.drew
    go_region_held3 (fun W => W.cell? ⟨wr.heap.size, 0, none⟩ = some (.int .i64 (n1 : Int)) ∧ W.cell? ⟨wr.heap.size, 1, none⟩ = some (.int .i64 (n2 : Int))) (first | go_keep | ((have qq := oq.c2; exact qq)))
     (first
      | (go_at_call 100; ((with_reducible refine (G1.out _).mono ?_)); rintro e w' ⟨rfl, k'⟩; have kq := kq.trans k'; have oq := k'.own oq (by simp); obtain ⟨x0, x1⟩ := oq.c2)
      | (go_at_call 100; ((with_reducible refine (G2.out _).mono ?_)); rintro e w' ⟨rfl, k'⟩; have kq := kq.trans k'; have oq := k'.own oq (by simp); obtain ⟨x0, x1⟩ := oq.c2))
    all_goals
     go_wp2_with fail
     go_roundw
     case rel => exact ⟨k + 1, HLT.out, by go_num, by rw [HT1.out, ← hstr.out], kq⟩
     case measure => (have hh := HLT.out; simp [intOf]; omega)
   ·obtain rfl : k = runs.length := by omega
    rw [List.take_length]
    have hfin : Hid (bs ((numL 1 1 ++ numL i 4) ++ (numL z 4 ++ (numL runs.length 2 ++ jrunsL runs))) = bs (recL ⟨1, i, name, z, runs⟩)) := Lib.hid (by
     rw [RE.out]; unfold qrunsL; simp only [List.append_assoc])
    go_wp2_with fail
    go_ret
    exact ⟨by rw [← hfin.out]; rfl, hK⟩
theorem recL_2 (i z : Nat) (name : List UInt8) (runs : List (Int × Int)) : recL ⟨2, i, name, z, runs⟩ = numL 2 1 ++ (numL i 4 ++ (numL z 4 ++ qrunsL runs)) := by
 unfold recL
 rw [show kId (JRec.mk 2 i name z runs).kind = true from rfl, show kName (JRec.mk 2 i name z runs).kind = false from rfl, show kBlob (JRec.mk 2 i name z runs).kind = true from rfl]
 simp
set_option maxRecDepth 100000 in
set_option maxHeartbeats 4000000 in
theorem jbytes_2 (i z : Nat) (name : List UInt8) (runs : List (Int × Int)) (v : Value) (lo hi : Nat) (w : World) (h : RunsIn w v runs lo hi) (hi1 : i < 4294967296) (hz1 : z ≤ 1048576) (hnm : name.length ≤ 48) (hrf : RunsFit runs) :
  Calls Tryz.prog 101 #[.agg #[.int .i64 2, .int .u32 (i : Int), .string (bs name), .int .i64 (z : Int), v]] w fun e w' => e = .returned (.string (bs (recL ⟨2, i, name, z, runs⟩))) ∧ Kept [] w w' := by
 obtain ⟨p, c, rfl⟩ := h.shape
 obtain ⟨hl16, hlo⟩ := hrf
 have hj : ∀ W, Calls Tryz.prog 169 #[.int .i64 2] W fun e w' => e = .returned (.tuple #[.bool true, .bool false, .bool true]) ∧ W = w' := fun W => jhas 2 W
 have h8 : ∀ W, Calls Tryz.prog 174 #[.int .u8 2] W fun e w' => e = .returned (.string (bs (numL 2 1))) ∧ Kept [] W w' := fun W => packU8 2 W (by decide)
 have h32 := fun W => packU32 i W hi1
 skip
 have o0 := Own.new w #[.int .i64 2, .int .u32 (i : Int), .string (bs name), .int .i64 (z : Int), .slice p runs.length c] 102
 have k0 : Kept [] w (w.alloc (.cells #[.int .i64 2, .int .u32 (i : Int), .string (bs name), .int .i64 (z : Int), .slice p runs.length c] 102)) := (Kept.refl _ _).alloc _
 have hre := recL_2 i z name runs
 have s1 : (bs (numL 2 1)).size = 1 := by rw [bs_size, numL_len]
 have s2 : (bs (numL i 4)).size ≤ 60 := by rw [bs_size]; rw [numL_len]; omega
 have hl' : (runs.length : Int) ≤ 16 := by omega
 have RE := Lib.hid hre
 have HJ := Lib.hid hj
 have H8 := Lib.hid h8
 have H32 := Lib.hid h32
 have H := Lib.hid h
 have HLO := Lib.hid hlo
 clear hre hj h8 h32 h hlo
 go_enter Tryz.func101, Tryz.ntmps101
 go_wp2_with fail
 refine (HJ.out _).mono ?_; rintro e w' ⟨rfl, rfl⟩
 go_wp2_with fail
 refine (H8.out _).mono ?_; rintro e w1 ⟨rfl, k1⟩
 have o1 := k1.own o0 (by simp)
 obtain ⟨a0, a1, a2, a3, a4⟩ := o1.c5
 go_wp2_with fail
 refine (H32.out _).mono ?_; rintro e w2 ⟨rfl, k2⟩
 have oP := k2.own o1 (by simp)
 obtain ⟨b0, b1, b2, b3, b4⟩ := oP.c5
 have kP := (k0.trans k1).trans k2
 clear a0 a1 a2 a3 a4 o1 o0 HJ H8 H32
 go_wp2_with fail
 generalize hT0 : bs (numL 2 1) ++ bs (numL i 4) = T0 at *
 have HT0 : Hid (T0 = bs (numL 2 1 ++ numL i 4)) := Lib.hid (by rw [← hT0, bs_append])
 have t0 : T0.size ≤ 100 := by rw [HT0.out, bs_size]; simp [numL_len, textL_len]; try omega
 clear hT0
 have hstart : Hid (T0 ++ (bs (numL z 4) ++ bs (numL runs.length 2)) = bs ((numL 2 1 ++ numL i 4) ++ (numL z 4 ++ (numL runs.length 2 ++ jrunsL (runs.take 0))))) := Lib.hid (by
  rw [HT0.out, bs_append, bs_append]
  simp [jrunsL])
 have y1 : (bs (numL z 4)).size = 4 := by rw [bs_size, numL_len]
 have y2 : (bs (numL runs.length 2)).size = 2 := by rw [bs_size, numL_len]
 have hz := fun W => packU32 z W (by omega)
 have hn := fun W => packU16 runs.length W (by omega)
 have HZ := Lib.hid hz
 have HN := Lib.hid hn
 have e1 := ju32_nat z (by omega)
 have e2 := ju16_nat runs.length (by omega)
 clear hz hn
 generalize bs (numL z 4) = M1 at *
 generalize bs (numL runs.length 2) = M2 at *
 have yy : (M1 ++ M2).size = M1.size + M2.size := ByteArray.size_append
 have qc1 : ∀ W, (Op.stringOp .add M1 M2).run Tryz.prog W = .ok (.string (M1 ++ M2)) W := fun W => by first | (simp [Op.stringOp]; omega)
 have qc2 : ∀ W, (Op.stringOp .add T0 (M1 ++ M2)).run Tryz.prog W = .ok (.string (T0 ++ (M1 ++ M2))) W := fun W => by first | (simp [Op.stringOp]; omega)
 clear yy
 have kk := kP.drew
 have ob := oP.drew
 go_region_held3 (fun W => W.cell? ⟨w.heap.size, 3, none⟩ = some (.int .i64 (z : Int)) ∧ W.cell? ⟨w.heap.size, 4, none⟩ = some (.slice p runs.length c)) (go_keep)
  (first
   | (go_at_call 102; ((with_reducible refine (HZ.out _).mono ?_)); rintro e w' ⟨rfl, k'⟩; have kk := kk.trans k'; have ob := k'.own ob (by simp); obtain ⟨c0, c1, c2, c3, c4⟩ := ob.c5)
   | (go_at_call 100; ((with_reducible refine (HN.out _).mono ?_)); rintro e w' ⟨rfl, k'⟩; have kk := kk.trans k'; have ob := k'.own ob (by simp); obtain ⟨c0, c1, c2, c3, c4⟩ := ob.c5))
 all_goals
  clear qc1 qc2 e1 e2
  have hs := (show Hid (w'.heap.size = w'.heap.size) from rfl)
  go_wp2_with fail
  go_loopw [6, 48] (fun t ii wr => ∃ k : Nat, k ≤ runs.length ∧ ii = .int .i64 k ∧ t = .string (bs ((numL 2 1 ++ numL i 4) ++ (numL z 4 ++ (numL runs.length 2 ++ jrunsL (runs.take k))))) ∧ Kept [] w wr) (fun _ ii _ => runs.length - (intOf ii).toNat)
  case atStart => exact ⟨0, by omega, rfl, congrArg Value.string hstart.out, kk⟩
  case round =>
   obtain ⟨k, hk, rfl, rfl, hK⟩ := hrel
   by_cases hlt : k < runs.length
   ·obtain ⟨b', off, rfl, g0, g1, hb', hlc, hcm⟩ := (H.out.kept0 hK).at_ k hlt
    have hbd := HLO.out k hlt
    have hrt := jrunsL_take runs k hlt
    obtain ⟨n1, hn1⟩ := Int.eq_ofNat_of_zero_le hbd.1
    obtain ⟨n2, hn2⟩ := Int.eq_ofNat_of_zero_le hbd.2.2.1
    rw [hn1] at g0 hrt hbd
    rw [hn2] at g1 hrt hbd
    rw [Int.toNat_natCast, Int.toNat_natCast] at hrt
    have hstr : Hid (bs ((numL 2 1 ++ numL i 4) ++ (numL z 4 ++ (numL runs.length 2 ++ jrunsL (runs.take k)))) ++ (bs (numL n1 2) ++ bs (numL n2 2)) = bs ((numL 2 1 ++ numL i 4) ++ (numL z 4 ++ (numL runs.length 2 ++ jrunsL (runs.take (k + 1)))))) := by
     show _ = _; rw [bs_append, bs_append, hrt]; simp only [List.append_assoc]
    have e1 := ju16_nat n1 (by omega)
    have e2 := ju16_nat n2 (by omega)
    have y1 : (bs (numL n1 2)).size = 2 := by rw [bs_size, numL_len]
    have y2 : (bs (numL n2 2)).size = 2 := by rw [bs_size, numL_len]
    have y0 : (bs ((numL 2 1 ++ numL i 4) ++ (numL z 4 ++ (numL runs.length 2 ++ jrunsL (runs.take k))))).size ≤ 1000 := by rw [bs_size]; simp [numL_len, textL_len, jrunsL_len]; omega
    have h1 := fun W => packU16 n1 W (by omega)
    have h2 := fun W => packU16 n2 W (by omega)
    have G1 := Lib.hid h1
    have G2 := Lib.hid h2
    have i1 : (k : Int) < runs.length := by omega
    have HLT := Lib.hid hlt
    have oR := Own.new wr #[.int .i64 (n1 : Int), .int .i64 (n2 : Int)] 128
    have kR : Kept [] w (wr.alloc (.cells #[.int .i64 (n1 : Int), .int .i64 (n2 : Int)] 128)) := hK.alloc _
    clear hrt hn1 hn2 h1 h2
    generalize bs ((numL 2 1 ++ numL i 4) ++ (numL z 4 ++ (numL runs.length 2 ++ jrunsL (runs.take k)))) = S0 at *
    generalize hT1 : bs ((numL 2 1 ++ numL i 4) ++ (numL z 4 ++ (numL runs.length 2 ++ jrunsL (runs.take (k + 1))))) = T1 at *
    have HT1 := Lib.hid hT1
    clear hT1
    generalize bs (numL n1 2) = N1 at *
    generalize bs (numL n2 2) = N2 at *
    have yy : (N1 ++ N2).size = N1.size + N2.size := ByteArray.size_append
    have qc1 : ∀ W, (Op.stringOp .add N1 N2).run Tryz.prog W = .ok (.string (N1 ++ N2)) W := fun W => by first | (simp [Op.stringOp]; omega)
    have qc2 : ∀ W, (Op.stringOp .add S0 (N1 ++ N2)).run Tryz.prog W = .ok (.string (S0 ++ (N1 ++ N2))) W := fun W => by first | (simp [Op.stringOp]; omega)
    clear yy
    go_wp2_with fail
    have kq := kR.drew
    have oq := oR.drew
    go_region_held3 (fun W => W.cell? ⟨wr.heap.size, 0, none⟩ = some (.int .i64 (n1 : Int)) ∧ W.cell? ⟨wr.heap.size, 1, none⟩ = some (.int .i64 (n2 : Int))) (first | go_keep | ((have qq := oq.c2; exact qq)))
     (first
      | (go_at_call 100; ((with_reducible refine (G1.out _).mono ?_)); rintro e w' ⟨rfl, k'⟩; have kq := kq.trans k'; have oq := k'.own oq (by simp); obtain ⟨x0, x1⟩ := oq.c2)
      | (go_at_call 100; ((with_reducible refine (G2.out _).mono ?_)); rintro e w' ⟨rfl, k'⟩; have kq := kq.trans k'; have oq := k'.own oq (by simp); obtain ⟨x0, x1⟩ := oq.c2))
    all_goals
     go_wp2_with fail
     go_roundw
     case rel => exact ⟨k + 1, HLT.out, by go_num, by rw [HT1.out, ← hstr.out], kq⟩
     case measure => (have hh := HLT.out; simp [intOf]; omega)
   ·obtain rfl : k = runs.length := by omega
    rw [List.take_length]
    have hfin : Hid (bs ((numL 2 1 ++ numL i 4) ++ (numL z 4 ++ (numL runs.length 2 ++ jrunsL runs))) = bs (recL ⟨2, i, name, z, runs⟩)) := Lib.hid (by
     rw [RE.out]; unfold qrunsL; simp only [List.append_assoc])
    go_wp2_with fail
    go_ret
    exact ⟨by rw [← hfin.out]; rfl, hK⟩
theorem recL_3 (i z : Nat) (name : List UInt8) (runs : List (Int × Int)) : recL ⟨3, i, name, z, runs⟩ = numL 3 1 ++ (textL name ++ (numL z 4 ++ qrunsL runs)) := by
 unfold recL
 rw [show kId (JRec.mk 3 i name z runs).kind = false from rfl, show kName (JRec.mk 3 i name z runs).kind = true from rfl, show kBlob (JRec.mk 3 i name z runs).kind = true from rfl]
 simp
set_option maxRecDepth 100000 in
set_option maxHeartbeats 4000000 in
theorem jbytes_3 (i z : Nat) (name : List UInt8) (runs : List (Int × Int)) (v : Value) (lo hi : Nat) (w : World) (h : RunsIn w v runs lo hi) (hi1 : i < 4294967296) (hz1 : z ≤ 1048576) (hnm : name.length ≤ 48) (hrf : RunsFit runs) :
  Calls Tryz.prog 101 #[.agg #[.int .i64 3, .int .u32 (i : Int), .string (bs name), .int .i64 (z : Int), v]] w fun e w' => e = .returned (.string (bs (recL ⟨3, i, name, z, runs⟩))) ∧ Kept [] w w' := by
 obtain ⟨p, c, rfl⟩ := h.shape
 obtain ⟨hl16, hlo⟩ := hrf
 have hj : ∀ W, Calls Tryz.prog 169 #[.int .i64 3] W fun e w' => e = .returned (.tuple #[.bool false, .bool true, .bool true]) ∧ W = w' := fun W => jhas 3 W
 have h8 : ∀ W, Calls Tryz.prog 174 #[.int .u8 3] W fun e w' => e = .returned (.string (bs (numL 3 1))) ∧ Kept [] W w' := fun W => packU8 3 W (by decide)
 have h32 := fun W => packText (bs name) W (by rw [bs_size]; omega)
 rw [bs_data] at h32
 have o0 := Own.new w #[.int .i64 3, .int .u32 (i : Int), .string (bs name), .int .i64 (z : Int), .slice p runs.length c] 102
 have k0 : Kept [] w (w.alloc (.cells #[.int .i64 3, .int .u32 (i : Int), .string (bs name), .int .i64 (z : Int), .slice p runs.length c] 102)) := (Kept.refl _ _).alloc _
 have hre := recL_3 i z name runs
 have s1 : (bs (numL 3 1)).size = 1 := by rw [bs_size, numL_len]
 have s2 : (bs (textL name)).size ≤ 60 := by rw [bs_size]; rw [textL_len]; omega
 have hl' : (runs.length : Int) ≤ 16 := by omega
 have RE := Lib.hid hre
 have HJ := Lib.hid hj
 have H8 := Lib.hid h8
 have H32 := Lib.hid h32
 have H := Lib.hid h
 have HLO := Lib.hid hlo
 clear hre hj h8 h32 h hlo
 go_enter Tryz.func101, Tryz.ntmps101
 go_wp2_with fail
 refine (HJ.out _).mono ?_; rintro e w' ⟨rfl, rfl⟩
 go_wp2_with fail
 refine (H8.out _).mono ?_; rintro e w1 ⟨rfl, k1⟩
 have o1 := k1.own o0 (by simp)
 obtain ⟨a0, a1, a2, a3, a4⟩ := o1.c5
 go_wp2_with fail
 refine (H32.out _).mono ?_; rintro e w2 ⟨rfl, k2⟩
 have oP := k2.own o1 (by simp)
 obtain ⟨b0, b1, b2, b3, b4⟩ := oP.c5
 have kP := (k0.trans k1).trans k2
 clear a0 a1 a2 a3 a4 o1 o0 HJ H8 H32
 go_wp2_with fail
 generalize hT0 : bs (numL 3 1) ++ bs (textL name) = T0 at *
 have HT0 : Hid (T0 = bs (numL 3 1 ++ textL name)) := Lib.hid (by rw [← hT0, bs_append])
 have t0 : T0.size ≤ 100 := by rw [HT0.out, bs_size]; simp [numL_len, textL_len]; try omega
 clear hT0
 have hstart : Hid (T0 ++ (bs (numL z 4) ++ bs (numL runs.length 2)) = bs ((numL 3 1 ++ textL name) ++ (numL z 4 ++ (numL runs.length 2 ++ jrunsL (runs.take 0))))) := Lib.hid (by
  rw [HT0.out, bs_append, bs_append]
  simp [jrunsL])
 have y1 : (bs (numL z 4)).size = 4 := by rw [bs_size, numL_len]
 have y2 : (bs (numL runs.length 2)).size = 2 := by rw [bs_size, numL_len]
 have hz := fun W => packU32 z W (by omega)
 have hn := fun W => packU16 runs.length W (by omega)
 have HZ := Lib.hid hz
 have HN := Lib.hid hn
 have e1 := ju32_nat z (by omega)
 have e2 := ju16_nat runs.length (by omega)
 clear hz hn
 generalize bs (numL z 4) = M1 at *
 generalize bs (numL runs.length 2) = M2 at *
 have yy : (M1 ++ M2).size = M1.size + M2.size := ByteArray.size_append
 have qc1 : ∀ W, (Op.stringOp .add M1 M2).run Tryz.prog W = .ok (.string (M1 ++ M2)) W := fun W => by first | (simp [Op.stringOp]; omega)
 have qc2 : ∀ W, (Op.stringOp .add T0 (M1 ++ M2)).run Tryz.prog W = .ok (.string (T0 ++ (M1 ++ M2))) W := fun W => by first | (simp [Op.stringOp]; omega)
 clear yy
 have kk := kP.drew
 have ob := oP.drew
 go_region_held3 (fun W => W.cell? ⟨w.heap.size, 3, none⟩ = some (.int .i64 (z : Int)) ∧ W.cell? ⟨w.heap.size, 4, none⟩ = some (.slice p runs.length c)) (go_keep)
  (first
   | (go_at_call 102; ((with_reducible refine (HZ.out _).mono ?_)); rintro e w' ⟨rfl, k'⟩; have kk := kk.trans k'; have ob := k'.own ob (by simp); obtain ⟨c0, c1, c2, c3, c4⟩ := ob.c5)
   | (go_at_call 100; ((with_reducible refine (HN.out _).mono ?_)); rintro e w' ⟨rfl, k'⟩; have kk := kk.trans k'; have ob := k'.own ob (by simp); obtain ⟨c0, c1, c2, c3, c4⟩ := ob.c5))
 all_goals
  clear qc1 qc2 e1 e2
  have hs := (show Hid (w'.heap.size = w'.heap.size) from rfl)
  go_wp2_with fail
  go_loopw [6, 48] (fun t ii wr => ∃ k : Nat, k ≤ runs.length ∧ ii = .int .i64 k ∧ t = .string (bs ((numL 3 1 ++ textL name) ++ (numL z 4 ++ (numL runs.length 2 ++ jrunsL (runs.take k))))) ∧ Kept [] w wr) (fun _ ii _ => runs.length - (intOf ii).toNat)
  case atStart => exact ⟨0, by omega, rfl, congrArg Value.string hstart.out, kk⟩
  case round =>
   obtain ⟨k, hk, rfl, rfl, hK⟩ := hrel
   by_cases hlt : k < runs.length
   ·obtain ⟨b', off, rfl, g0, g1, hb', hlc, hcm⟩ := (H.out.kept0 hK).at_ k hlt
    have hbd := HLO.out k hlt
    have hrt := jrunsL_take runs k hlt
    obtain ⟨n1, hn1⟩ := Int.eq_ofNat_of_zero_le hbd.1
    obtain ⟨n2, hn2⟩ := Int.eq_ofNat_of_zero_le hbd.2.2.1
    rw [hn1] at g0 hrt hbd
    rw [hn2] at g1 hrt hbd
    rw [Int.toNat_natCast, Int.toNat_natCast] at hrt
    have hstr : Hid (bs ((numL 3 1 ++ textL name) ++ (numL z 4 ++ (numL runs.length 2 ++ jrunsL (runs.take k)))) ++ (bs (numL n1 2) ++ bs (numL n2 2)) = bs ((numL 3 1 ++ textL name) ++ (numL z 4 ++ (numL runs.length 2 ++ jrunsL (runs.take (k + 1)))))) := by
     show _ = _; rw [bs_append, bs_append, hrt]; simp only [List.append_assoc]
    have e1 := ju16_nat n1 (by omega)
    have e2 := ju16_nat n2 (by omega)
    have y1 : (bs (numL n1 2)).size = 2 := by rw [bs_size, numL_len]
    have y2 : (bs (numL n2 2)).size = 2 := by rw [bs_size, numL_len]
    have y0 : (bs ((numL 3 1 ++ textL name) ++ (numL z 4 ++ (numL runs.length 2 ++ jrunsL (runs.take k))))).size ≤ 1000 := by rw [bs_size]; simp [numL_len, textL_len, jrunsL_len]; omega
    have h1 := fun W => packU16 n1 W (by omega)
    have h2 := fun W => packU16 n2 W (by omega)
    have G1 := Lib.hid h1
    have G2 := Lib.hid h2
    have i1 : (k : Int) < runs.length := by omega
    have HLT := Lib.hid hlt
    have oR := Own.new wr #[.int .i64 (n1 : Int), .int .i64 (n2 : Int)] 128
    have kR : Kept [] w (wr.alloc (.cells #[.int .i64 (n1 : Int), .int .i64 (n2 : Int)] 128)) := hK.alloc _
    clear hrt hn1 hn2 h1 h2
    generalize bs ((numL 3 1 ++ textL name) ++ (numL z 4 ++ (numL runs.length 2 ++ jrunsL (runs.take k)))) = S0 at *
    generalize hT1 : bs ((numL 3 1 ++ textL name) ++ (numL z 4 ++ (numL runs.length 2 ++ jrunsL (runs.take (k + 1))))) = T1 at *
    have HT1 := Lib.hid hT1
    clear hT1
    generalize bs (numL n1 2) = N1 at *
    generalize bs (numL n2 2) = N2 at *
    have yy : (N1 ++ N2).size = N1.size + N2.size := ByteArray.size_append
    have qc1 : ∀ W, (Op.stringOp .add N1 N2).run Tryz.prog W = .ok (.string (N1 ++ N2)) W := fun W => by first | (simp [Op.stringOp]; omega)
    have qc2 : ∀ W, (Op.stringOp .add S0 (N1 ++ N2)).run Tryz.prog W = .ok (.string (S0 ++ (N1 ++ N2))) W := fun W => by first | (simp [Op.stringOp]; omega)
    clear yy
    go_wp2_with fail
    have kq := kR.drew
    have oq := oR.drew
    go_region_held3 (fun W => W.cell? ⟨wr.heap.size, 0, none⟩ = some (.int .i64 (n1 : Int)) ∧ W.cell? ⟨wr.heap.size, 1, none⟩ = some (.int .i64 (n2 : Int))) (first | go_keep | ((have qq := oq.c2; exact qq)))
     (first
      | (go_at_call 100; ((with_reducible refine (G1.out _).mono ?_)); rintro e w' ⟨rfl, k'⟩; have kq := kq.trans k'; have oq := k'.own oq (by simp); obtain ⟨x0, x1⟩ := oq.c2)
      | (go_at_call 100; ((with_reducible refine (G2.out _).mono ?_)); rintro e w' ⟨rfl, k'⟩; have kq := kq.trans k'; have oq := k'.own oq (by simp); obtain ⟨x0, x1⟩ := oq.c2))
    all_goals
     go_wp2_with fail
     go_roundw
     case rel => exact ⟨k + 1, HLT.out, by go_num, by rw [HT1.out, ← hstr.out], kq⟩
     case measure => (have hh := HLT.out; simp [intOf]; omega)
   ·obtain rfl : k = runs.length := by omega
    rw [List.take_length]
    have hfin : Hid (bs ((numL 3 1 ++ textL name) ++ (numL z 4 ++ (numL runs.length 2 ++ jrunsL runs))) = bs (recL ⟨3, i, name, z, runs⟩)) := Lib.hid (by
     rw [RE.out]; unfold qrunsL; simp only [List.append_assoc])
    go_wp2_with fail
    go_ret
    exact ⟨by rw [← hfin.out]; rfl, hK⟩
theorem recL_4 (i z : Nat) (name : List UInt8) (runs : List (Int × Int)) : recL ⟨4, i, name, z, runs⟩ = numL 4 1 ++ (numL i 4) := by
 unfold recL
 rw [show kId (JRec.mk 4 i name z runs).kind = true from rfl, show kName (JRec.mk 4 i name z runs).kind = false from rfl, show kBlob (JRec.mk 4 i name z runs).kind = false from rfl]
 simp
set_option maxRecDepth 100000 in
set_option maxHeartbeats 4000000 in
theorem jbytes_4 (i z : Nat) (name : List UInt8) (runs : List (Int × Int)) (v : Value) (lo hi : Nat) (w : World) (h : RunsIn w v runs lo hi) (hi1 : i < 4294967296) (hz1 : z ≤ 1048576) (hnm : name.length ≤ 48) (hrf : RunsFit runs) :
  Calls Tryz.prog 101 #[.agg #[.int .i64 4, .int .u32 (i : Int), .string (bs name), .int .i64 (z : Int), v]] w fun e w' => e = .returned (.string (bs (recL ⟨4, i, name, z, runs⟩))) ∧ Kept [] w w' := by
 obtain ⟨p, c, rfl⟩ := h.shape
 obtain ⟨hl16, hlo⟩ := hrf
 have hj : ∀ W, Calls Tryz.prog 169 #[.int .i64 4] W fun e w' => e = .returned (.tuple #[.bool true, .bool false, .bool false]) ∧ W = w' := fun W => jhas 4 W
 have h8 : ∀ W, Calls Tryz.prog 174 #[.int .u8 4] W fun e w' => e = .returned (.string (bs (numL 4 1))) ∧ Kept [] W w' := fun W => packU8 4 W (by decide)
 have h32 := fun W => packU32 i W hi1
 skip
 have o0 := Own.new w #[.int .i64 4, .int .u32 (i : Int), .string (bs name), .int .i64 (z : Int), .slice p runs.length c] 102
 have k0 : Kept [] w (w.alloc (.cells #[.int .i64 4, .int .u32 (i : Int), .string (bs name), .int .i64 (z : Int), .slice p runs.length c] 102)) := (Kept.refl _ _).alloc _
 have hre := recL_4 i z name runs
 have s1 : (bs (numL 4 1)).size = 1 := by rw [bs_size, numL_len]
 have s2 : (bs (numL i 4)).size ≤ 60 := by rw [bs_size]; rw [numL_len]; omega
 have hl' : (runs.length : Int) ≤ 16 := by omega
 have RE := Lib.hid hre
 have HJ := Lib.hid hj
 have H8 := Lib.hid h8
 have H32 := Lib.hid h32
 have H := Lib.hid h
 have HLO := Lib.hid hlo
 clear hre hj h8 h32 h hlo
 go_enter Tryz.func101, Tryz.ntmps101
 go_wp2_with fail
 refine (HJ.out _).mono ?_; rintro e w' ⟨rfl, rfl⟩
 go_wp2_with fail
 refine (H8.out _).mono ?_; rintro e w1 ⟨rfl, k1⟩
 have o1 := k1.own o0 (by simp)
 obtain ⟨a0, a1, a2, a3, a4⟩ := o1.c5
 go_wp2_with fail
 refine (H32.out _).mono ?_; rintro e w2 ⟨rfl, k2⟩
 have oP := k2.own o1 (by simp)
 obtain ⟨b0, b1, b2, b3, b4⟩ := oP.c5
 have kP := (k0.trans k1).trans k2
 clear a0 a1 a2 a3 a4 o1 o0 HJ H8 H32
 go_wp2_with fail
 go_ret
 exact ⟨by rw [RE.out, ← bs_append]; rfl, kP⟩
theorem recL_5 (i z : Nat) (name : List UInt8) (runs : List (Int × Int)) : recL ⟨5, i, name, z, runs⟩ = numL 5 1 ++ (numL i 4) := by
 unfold recL
 rw [show kId (JRec.mk 5 i name z runs).kind = true from rfl, show kName (JRec.mk 5 i name z runs).kind = false from rfl, show kBlob (JRec.mk 5 i name z runs).kind = false from rfl]
 simp
set_option maxRecDepth 100000 in
set_option maxHeartbeats 4000000 in
theorem jbytes_5 (i z : Nat) (name : List UInt8) (runs : List (Int × Int)) (v : Value) (lo hi : Nat) (w : World) (h : RunsIn w v runs lo hi) (hi1 : i < 4294967296) (hz1 : z ≤ 1048576) (hnm : name.length ≤ 48) (hrf : RunsFit runs) :
  Calls Tryz.prog 101 #[.agg #[.int .i64 5, .int .u32 (i : Int), .string (bs name), .int .i64 (z : Int), v]] w fun e w' => e = .returned (.string (bs (recL ⟨5, i, name, z, runs⟩))) ∧ Kept [] w w' := by
 obtain ⟨p, c, rfl⟩ := h.shape
 obtain ⟨hl16, hlo⟩ := hrf
 have hj : ∀ W, Calls Tryz.prog 169 #[.int .i64 5] W fun e w' => e = .returned (.tuple #[.bool true, .bool false, .bool false]) ∧ W = w' := fun W => jhas 5 W
 have h8 : ∀ W, Calls Tryz.prog 174 #[.int .u8 5] W fun e w' => e = .returned (.string (bs (numL 5 1))) ∧ Kept [] W w' := fun W => packU8 5 W (by decide)
 have h32 := fun W => packU32 i W hi1
 skip
 have o0 := Own.new w #[.int .i64 5, .int .u32 (i : Int), .string (bs name), .int .i64 (z : Int), .slice p runs.length c] 102
 have k0 : Kept [] w (w.alloc (.cells #[.int .i64 5, .int .u32 (i : Int), .string (bs name), .int .i64 (z : Int), .slice p runs.length c] 102)) := (Kept.refl _ _).alloc _
 have hre := recL_5 i z name runs
 have s1 : (bs (numL 5 1)).size = 1 := by rw [bs_size, numL_len]
 have s2 : (bs (numL i 4)).size ≤ 60 := by rw [bs_size]; rw [numL_len]; omega
 have hl' : (runs.length : Int) ≤ 16 := by omega
 have RE := Lib.hid hre
 have HJ := Lib.hid hj
 have H8 := Lib.hid h8
 have H32 := Lib.hid h32
 have H := Lib.hid h
 have HLO := Lib.hid hlo
 clear hre hj h8 h32 h hlo
 go_enter Tryz.func101, Tryz.ntmps101
 go_wp2_with fail
 refine (HJ.out _).mono ?_; rintro e w' ⟨rfl, rfl⟩
 go_wp2_with fail
 refine (H8.out _).mono ?_; rintro e w1 ⟨rfl, k1⟩
 have o1 := k1.own o0 (by simp)
 obtain ⟨a0, a1, a2, a3, a4⟩ := o1.c5
 go_wp2_with fail
 refine (H32.out _).mono ?_; rintro e w2 ⟨rfl, k2⟩
 have oP := k2.own o1 (by simp)
 obtain ⟨b0, b1, b2, b3, b4⟩ := oP.c5
 have kP := (k0.trans k1).trans k2
 clear a0 a1 a2 a3 a4 o1 o0 HJ H8 H32
 go_wp2_with fail
 go_ret
 exact ⟨by rw [RE.out, ← bs_append]; rfl, kP⟩
theorem recL_6 (i z : Nat) (name : List UInt8) (runs : List (Int × Int)) : recL ⟨6, i, name, z, runs⟩ = numL 6 1 ++ (textL name) := by
 unfold recL
 rw [show kId (JRec.mk 6 i name z runs).kind = false from rfl, show kName (JRec.mk 6 i name z runs).kind = true from rfl, show kBlob (JRec.mk 6 i name z runs).kind = false from rfl]
 simp
set_option maxRecDepth 100000 in
set_option maxHeartbeats 4000000 in
theorem jbytes_6 (i z : Nat) (name : List UInt8) (runs : List (Int × Int)) (v : Value) (lo hi : Nat) (w : World) (h : RunsIn w v runs lo hi) (hi1 : i < 4294967296) (hz1 : z ≤ 1048576) (hnm : name.length ≤ 48) (hrf : RunsFit runs) :
  Calls Tryz.prog 101 #[.agg #[.int .i64 6, .int .u32 (i : Int), .string (bs name), .int .i64 (z : Int), v]] w fun e w' => e = .returned (.string (bs (recL ⟨6, i, name, z, runs⟩))) ∧ Kept [] w w' := by
 obtain ⟨p, c, rfl⟩ := h.shape
 obtain ⟨hl16, hlo⟩ := hrf
 have hj : ∀ W, Calls Tryz.prog 169 #[.int .i64 6] W fun e w' => e = .returned (.tuple #[.bool false, .bool true, .bool false]) ∧ W = w' := fun W => jhas 6 W
 have h8 : ∀ W, Calls Tryz.prog 174 #[.int .u8 6] W fun e w' => e = .returned (.string (bs (numL 6 1))) ∧ Kept [] W w' := fun W => packU8 6 W (by decide)
 have h32 := fun W => packText (bs name) W (by rw [bs_size]; omega)
 rw [bs_data] at h32
 have o0 := Own.new w #[.int .i64 6, .int .u32 (i : Int), .string (bs name), .int .i64 (z : Int), .slice p runs.length c] 102
 have k0 : Kept [] w (w.alloc (.cells #[.int .i64 6, .int .u32 (i : Int), .string (bs name), .int .i64 (z : Int), .slice p runs.length c] 102)) := (Kept.refl _ _).alloc _
 have hre := recL_6 i z name runs
 have s1 : (bs (numL 6 1)).size = 1 := by rw [bs_size, numL_len]
 have s2 : (bs (textL name)).size ≤ 60 := by rw [bs_size]; rw [textL_len]; omega
 have hl' : (runs.length : Int) ≤ 16 := by omega
 have RE := Lib.hid hre
 have HJ := Lib.hid hj
 have H8 := Lib.hid h8
 have H32 := Lib.hid h32
 have H := Lib.hid h
 have HLO := Lib.hid hlo
 clear hre hj h8 h32 h hlo
 go_enter Tryz.func101, Tryz.ntmps101
 go_wp2_with fail
 refine (HJ.out _).mono ?_; rintro e w' ⟨rfl, rfl⟩
 go_wp2_with fail
 refine (H8.out _).mono ?_; rintro e w1 ⟨rfl, k1⟩
 have o1 := k1.own o0 (by simp)
 obtain ⟨a0, a1, a2, a3, a4⟩ := o1.c5
 go_wp2_with fail
 refine (H32.out _).mono ?_; rintro e w2 ⟨rfl, k2⟩
 have oP := k2.own o1 (by simp)
 obtain ⟨b0, b1, b2, b3, b4⟩ := oP.c5
 have kP := (k0.trans k1).trans k2
 clear a0 a1 a2 a3 a4 o1 o0 HJ H8 H32
 go_wp2_with fail
 go_ret
 exact ⟨by rw [RE.out, ← bs_append]; rfl, kP⟩
theorem jbytes (r : JRec) (v : Value) (lo hi : Nat) (w : World) (h : RunsIn w v r.runs lo hi) (hok : RecOk r) :
  Calls Tryz.prog 101 #[.agg (r.cells v)] w fun e w' => e = .returned (.string (bs (recL r))) ∧ Kept [] w w' := by
 obtain ⟨k, id, name, size, runs⟩ := r
 obtain ⟨h1, h6, i0, i1, nm, s0, s1, rf⟩ := hok
 simp only at h h1 h6 i0 i1 nm s0 s1 rf
 obtain ⟨i, rfl⟩ := Int.eq_ofNat_of_zero_le i0
 obtain ⟨z, rfl⟩ := Int.eq_ofNat_of_zero_le s0
 unfold JRec.cells
 simp only
 rcases (by omega : k = 1 ∨ k = 2 ∨ k = 3 ∨ k = 4 ∨ k = 5 ∨ k = 6) with rfl | rfl | rfl | rfl | rfl | rfl
 ·exact jbytes_1 i z name runs v lo hi w h (by omega) (by omega) nm rf
 ·exact jbytes_2 i z name runs v lo hi w h (by omega) (by omega) nm rf
 ·exact jbytes_3 i z name runs v lo hi w h (by omega) (by omega) nm rf
 ·exact jbytes_4 i z name runs v lo hi w h (by omega) (by omega) nm rf
 ·exact jbytes_5 i z name runs v lo hi w h (by omega) (by omega) nm rf
 ·exact jbytes_6 i z name runs v lo hi w h (by omega) (by omega) nm rf
end Go.Proofs.YtdkimcnlhmhpgaaGreat
