/- Layer 13 (journal): a record's bytes, as the document has them. -/
import Derived.Test.YtegbekeopgponaaProg
import Derived.Test.YtegbekeopgponaaG01
import Derived.Test.YtegbekeopgponaaG16
import Derived.WalkKit
import Derived.Deep.SlicePairs
import Derived.ProofKit
import Derived.OpenShut
namespace Go.Proofs.Ytegbekeopgponaa
open Go.RowKit
set_option linter.unusedVariables false
set_option linter.unusedSimpArgs false

theorem qrunsL_len (l : List (Int × Int)) : (qrunsL l).length = 2 + 4 * l.length := by unfold qrunsL; rw [List.length_append, numL_len, jrunsL_len]
set_option maxRecDepth 100000 in
set_option maxHeartbeats 4000000 in
theorem qrec_1 (i z : Nat) (name : List UInt8) (runs : List (Int × Int)) (v : Value) (lo hi : Nat) (w : World) (h : RunsIn w v runs lo hi) (hi1 : i < 4294967296) (hz1 : z ≤ 1048576) (hnm : name.length ≤ 48) (hrf : RunsFit runs) :
    Calls Try.prog 67 #[.agg #[.int .i64 1, .int .u32 (i : Int), .string (bs name), .int .i64 (z : Int), v]] w fun e w' => e = .returned (.string (bs (recL ⟨1, i, name, z, runs⟩))) ∧ Kept [] w w' := by
  obtain ⟨p, c, rfl⟩ := h.shape
  have hl16 := hrf.1
  have hj : ∀ W, Calls Try.prog 58 #[.int .i64 1] W fun e w' => e = .returned (.tuple #[.bool true, .bool false, .bool true]) ∧ W = w' := fun W => qhas 1 W
  have h8 : ∀ W, Calls Try.prog 66 #[.int .u64 1, .int .i64 1] W fun e w' => e = .returned (.string (bs (numL 1 1))) ∧ Kept [] W w' := fun W => jNum1 1 W (by decide)
  have h32 := fun W => jNum4 i W (by omega)
  skip
  have hq := fun W (k : Kept [] w W) => qruns _ runs lo hi W (h.kept0 k) hrf
  have hz := fun W => jNum4 z W (by omega)
  have o0 := Own.new w #[.int .i64 1, .int .u32 (i : Int), .string (bs name), .int .i64 (z : Int), .slice p runs.length c] 50
  have k0 : Kept [] w (w.alloc (.cells #[.int .i64 1, .int .u32 (i : Int), .string (bs name), .int .i64 (z : Int), .slice p runs.length c] 50)) := (Kept.refl _ _).alloc _
  have hre := recL_1 i z name runs
  have s1 : (bs (numL 1 1)).size = 1 := by rw [bs_size, numL_len]
  have s2 : (bs (numL i 4)).size ≤ 60 := by rw [bs_size]; rw [numL_len]; omega
  have s3 : (bs (numL z 4)).size = 4 := by rw [bs_size, numL_len]
  have s4 : (bs (qrunsL runs)).size ≤ 100 := by rw [bs_size, qrunsL_len]; omega
  have RE := Lib.hid hre
  have HJ := Lib.hid hj
  have H8 := Lib.hid h8
  have H32 := Lib.hid h32
  have HQ := Lib.hid hq
  have HZ := Lib.hid hz
  have e0 := ju64_nat i (by omega)
  have e1 := ju64_nat z (by omega)
  clear hre hj h8 h32 h hq hz
  go_enter Try.func67, Try.ntmps67
  go_wp2_with fail
  refine (HJ.out _).mono ?_; rintro e w' ⟨rfl, rfl⟩
  go_wp2_with fail
  refine (H8.out _).mono ?_; rintro e w1 ⟨rfl, k1⟩
  have o1 := k1.own o0 (by simp)
  obtain ⟨a0, a1, a2, a3, a4⟩ := o1.c5
  go_wp2_with fail
  refine (H32.out _).mono ?_; rintro e w2 ⟨rfl, k2⟩
  have oP := k2.own o1 (by simp)
  obtain ⟨b0, b1, b2, b3, b4⟩ := oP.c5
  have kP := (k0.trans k1).trans k2
  clear a0 a1 a2 a3 a4 o1 o0 HJ H8 H32
  go_wp2_with fail
  generalize hT0 : bs (numL 1 1) ++ bs (numL i 4) = T0 at *
  have HT0 : Hid (T0 = bs (numL 1 1 ++ numL i 4)) := Lib.hid (by rw [← hT0, bs_append])
  have t0 : T0.size ≤ 100 := by rw [HT0.out, bs_size]; simp [numL_len, textL_len]; try omega
  clear hT0
  have hfin : Hid (T0 ++ bs (numL z 4) ++ bs (qrunsL runs) = bs (recL ⟨1, i, name, z, runs⟩)) := Lib.hid (by
    rw [HT0.out, bs_append, bs_append, RE.out]; simp only [List.append_assoc])
  generalize bs (numL z 4) = M1 at *
  generalize bs (qrunsL runs) = M2 at *
  have yy : (T0 ++ M1).size = T0.size + M1.size := ByteArray.size_append
  have qc1 : ∀ W, (Op.stringOp .add T0 M1).run Try.prog W = .ok (.string (T0 ++ M1)) W := fun W => by first | (simp [Op.stringOp]; omega)
  have qc2 : ∀ W, (Op.stringOp .add (T0 ++ M1) M2).run Try.prog W = .ok (.string (T0 ++ M1 ++ M2)) W := fun W => by first | (simp [Op.stringOp]; omega)
  clear yy
  have kk := kP.drew
  have ob := oP.drew
  go_region_held3 (fun W => W.cell? ⟨w.heap.size, 3, none⟩ = some (.int .i64 (z : Int)) ∧ W.cell? ⟨w.heap.size, 4, none⟩ = some (.slice p runs.length c)) (go_keep)
    (first
      | (go_at_call 66; ((with_reducible refine (HZ.out _).mono ?_)); rintro e w' ⟨rfl, k'⟩; have kk := kk.trans k'; have ob := k'.own ob (by simp); obtain ⟨c0, c1, c2, c3, c4⟩ := ob.c5)
      | (go_at_call 99; ((with_reducible refine (HQ.out _ kk).mono ?_)); rintro e w' ⟨rfl, k'⟩; have kk := kk.trans k'; have ob := k'.own ob (by simp); obtain ⟨c0, c1, c2, c3, c4⟩ := ob.c5))
  all_goals
    go_wp2_with fail
    go_ret
    exact ⟨by rw [← hfin.out]; rfl, kk⟩
set_option maxRecDepth 100000 in
set_option maxHeartbeats 4000000 in
theorem qrec_2 (i z : Nat) (name : List UInt8) (runs : List (Int × Int)) (v : Value) (lo hi : Nat) (w : World) (h : RunsIn w v runs lo hi) (hi1 : i < 4294967296) (hz1 : z ≤ 1048576) (hnm : name.length ≤ 48) (hrf : RunsFit runs) :
    Calls Try.prog 67 #[.agg #[.int .i64 2, .int .u32 (i : Int), .string (bs name), .int .i64 (z : Int), v]] w fun e w' => e = .returned (.string (bs (recL ⟨2, i, name, z, runs⟩))) ∧ Kept [] w w' := by
  obtain ⟨p, c, rfl⟩ := h.shape
  have hl16 := hrf.1
  have hj : ∀ W, Calls Try.prog 58 #[.int .i64 2] W fun e w' => e = .returned (.tuple #[.bool true, .bool false, .bool true]) ∧ W = w' := fun W => qhas 2 W
  have h8 : ∀ W, Calls Try.prog 66 #[.int .u64 2, .int .i64 1] W fun e w' => e = .returned (.string (bs (numL 2 1))) ∧ Kept [] W w' := fun W => jNum1 2 W (by decide)
  have h32 := fun W => jNum4 i W (by omega)
  skip
  have hq := fun W (k : Kept [] w W) => qruns _ runs lo hi W (h.kept0 k) hrf
  have hz := fun W => jNum4 z W (by omega)
  have o0 := Own.new w #[.int .i64 2, .int .u32 (i : Int), .string (bs name), .int .i64 (z : Int), .slice p runs.length c] 50
  have k0 : Kept [] w (w.alloc (.cells #[.int .i64 2, .int .u32 (i : Int), .string (bs name), .int .i64 (z : Int), .slice p runs.length c] 50)) := (Kept.refl _ _).alloc _
  have hre := recL_2 i z name runs
  have s1 : (bs (numL 2 1)).size = 1 := by rw [bs_size, numL_len]
  have s2 : (bs (numL i 4)).size ≤ 60 := by rw [bs_size]; rw [numL_len]; omega
  have s3 : (bs (numL z 4)).size = 4 := by rw [bs_size, numL_len]
  have s4 : (bs (qrunsL runs)).size ≤ 100 := by rw [bs_size, qrunsL_len]; omega
  have RE := Lib.hid hre
  have HJ := Lib.hid hj
  have H8 := Lib.hid h8
  have H32 := Lib.hid h32
  have HQ := Lib.hid hq
  have HZ := Lib.hid hz
  have e0 := ju64_nat i (by omega)
  have e1 := ju64_nat z (by omega)
  clear hre hj h8 h32 h hq hz
  go_enter Try.func67, Try.ntmps67
  go_wp2_with fail
  refine (HJ.out _).mono ?_; rintro e w' ⟨rfl, rfl⟩
  go_wp2_with fail
  refine (H8.out _).mono ?_; rintro e w1 ⟨rfl, k1⟩
  have o1 := k1.own o0 (by simp)
  obtain ⟨a0, a1, a2, a3, a4⟩ := o1.c5
  go_wp2_with fail
  refine (H32.out _).mono ?_; rintro e w2 ⟨rfl, k2⟩
  have oP := k2.own o1 (by simp)
  obtain ⟨b0, b1, b2, b3, b4⟩ := oP.c5
  have kP := (k0.trans k1).trans k2
  clear a0 a1 a2 a3 a4 o1 o0 HJ H8 H32
  go_wp2_with fail
  generalize hT0 : bs (numL 2 1) ++ bs (numL i 4) = T0 at *
  have HT0 : Hid (T0 = bs (numL 2 1 ++ numL i 4)) := Lib.hid (by rw [← hT0, bs_append])
  have t0 : T0.size ≤ 100 := by rw [HT0.out, bs_size]; simp [numL_len, textL_len]; try omega
  clear hT0
  have hfin : Hid (T0 ++ bs (numL z 4) ++ bs (qrunsL runs) = bs (recL ⟨2, i, name, z, runs⟩)) := Lib.hid (by
    rw [HT0.out, bs_append, bs_append, RE.out]; simp only [List.append_assoc])
  generalize bs (numL z 4) = M1 at *
  generalize bs (qrunsL runs) = M2 at *
  have yy : (T0 ++ M1).size = T0.size + M1.size := ByteArray.size_append
  have qc1 : ∀ W, (Op.stringOp .add T0 M1).run Try.prog W = .ok (.string (T0 ++ M1)) W := fun W => by first | (simp [Op.stringOp]; omega)
  have qc2 : ∀ W, (Op.stringOp .add (T0 ++ M1) M2).run Try.prog W = .ok (.string (T0 ++ M1 ++ M2)) W := fun W => by first | (simp [Op.stringOp]; omega)
  clear yy
  have kk := kP.drew
  have ob := oP.drew
  go_region_held3 (fun W => W.cell? ⟨w.heap.size, 3, none⟩ = some (.int .i64 (z : Int)) ∧ W.cell? ⟨w.heap.size, 4, none⟩ = some (.slice p runs.length c)) (go_keep)
    (first
      | (go_at_call 66; ((with_reducible refine (HZ.out _).mono ?_)); rintro e w' ⟨rfl, k'⟩; have kk := kk.trans k'; have ob := k'.own ob (by simp); obtain ⟨c0, c1, c2, c3, c4⟩ := ob.c5)
      | (go_at_call 99; ((with_reducible refine (HQ.out _ kk).mono ?_)); rintro e w' ⟨rfl, k'⟩; have kk := kk.trans k'; have ob := k'.own ob (by simp); obtain ⟨c0, c1, c2, c3, c4⟩ := ob.c5))
  all_goals
    go_wp2_with fail
    go_ret
    exact ⟨by rw [← hfin.out]; rfl, kk⟩
set_option maxRecDepth 100000 in
set_option maxHeartbeats 4000000 in
theorem qrec_3 (i z : Nat) (name : List UInt8) (runs : List (Int × Int)) (v : Value) (lo hi : Nat) (w : World) (h : RunsIn w v runs lo hi) (hi1 : i < 4294967296) (hz1 : z ≤ 1048576) (hnm : name.length ≤ 48) (hrf : RunsFit runs) :
    Calls Try.prog 67 #[.agg #[.int .i64 3, .int .u32 (i : Int), .string (bs name), .int .i64 (z : Int), v]] w fun e w' => e = .returned (.string (bs (recL ⟨3, i, name, z, runs⟩))) ∧ Kept [] w w' := by
  obtain ⟨p, c, rfl⟩ := h.shape
  have hl16 := hrf.1
  have hj : ∀ W, Calls Try.prog 58 #[.int .i64 3] W fun e w' => e = .returned (.tuple #[.bool false, .bool true, .bool true]) ∧ W = w' := fun W => qhas 3 W
  have h8 : ∀ W, Calls Try.prog 66 #[.int .u64 3, .int .i64 1] W fun e w' => e = .returned (.string (bs (numL 3 1))) ∧ Kept [] W w' := fun W => jNum1 3 W (by decide)
  have h32 := fun W => rText (bs name) W (by rw [bs_size]; omega)
  rw [bs_data] at h32
  have hq := fun W (k : Kept [] w W) => qruns _ runs lo hi W (h.kept0 k) hrf
  have hz := fun W => jNum4 z W (by omega)
  have o0 := Own.new w #[.int .i64 3, .int .u32 (i : Int), .string (bs name), .int .i64 (z : Int), .slice p runs.length c] 50
  have k0 : Kept [] w (w.alloc (.cells #[.int .i64 3, .int .u32 (i : Int), .string (bs name), .int .i64 (z : Int), .slice p runs.length c] 50)) := (Kept.refl _ _).alloc _
  have hre := recL_3 i z name runs
  have s1 : (bs (numL 3 1)).size = 1 := by rw [bs_size, numL_len]
  have s2 : (bs (textL name)).size ≤ 60 := by rw [bs_size]; rw [textL_len]; omega
  have s3 : (bs (numL z 4)).size = 4 := by rw [bs_size, numL_len]
  have s4 : (bs (qrunsL runs)).size ≤ 100 := by rw [bs_size, qrunsL_len]; omega
  have RE := Lib.hid hre
  have HJ := Lib.hid hj
  have H8 := Lib.hid h8
  have H32 := Lib.hid h32
  have HQ := Lib.hid hq
  have HZ := Lib.hid hz
  have e0 := ju64_nat i (by omega)
  have e1 := ju64_nat z (by omega)
  clear hre hj h8 h32 h hq hz
  go_enter Try.func67, Try.ntmps67
  go_wp2_with fail
  refine (HJ.out _).mono ?_; rintro e w' ⟨rfl, rfl⟩
  go_wp2_with fail
  refine (H8.out _).mono ?_; rintro e w1 ⟨rfl, k1⟩
  have o1 := k1.own o0 (by simp)
  obtain ⟨a0, a1, a2, a3, a4⟩ := o1.c5
  go_wp2_with fail
  refine (H32.out _).mono ?_; rintro e w2 ⟨rfl, k2⟩
  have oP := k2.own o1 (by simp)
  obtain ⟨b0, b1, b2, b3, b4⟩ := oP.c5
  have kP := (k0.trans k1).trans k2
  clear a0 a1 a2 a3 a4 o1 o0 HJ H8 H32
  go_wp2_with fail
  generalize hT0 : bs (numL 3 1) ++ bs (textL name) = T0 at *
  have HT0 : Hid (T0 = bs (numL 3 1 ++ textL name)) := Lib.hid (by rw [← hT0, bs_append])
  have t0 : T0.size ≤ 100 := by rw [HT0.out, bs_size]; simp [numL_len, textL_len]; try omega
  clear hT0
  have hfin : Hid (T0 ++ bs (numL z 4) ++ bs (qrunsL runs) = bs (recL ⟨3, i, name, z, runs⟩)) := Lib.hid (by
    rw [HT0.out, bs_append, bs_append, RE.out]; simp only [List.append_assoc])
  generalize bs (numL z 4) = M1 at *
  generalize bs (qrunsL runs) = M2 at *
  have yy : (T0 ++ M1).size = T0.size + M1.size := ByteArray.size_append
  have qc1 : ∀ W, (Op.stringOp .add T0 M1).run Try.prog W = .ok (.string (T0 ++ M1)) W := fun W => by first | (simp [Op.stringOp]; omega)
  have qc2 : ∀ W, (Op.stringOp .add (T0 ++ M1) M2).run Try.prog W = .ok (.string (T0 ++ M1 ++ M2)) W := fun W => by first | (simp [Op.stringOp]; omega)
  clear yy
  have kk := kP.drew
  have ob := oP.drew
  go_region_held3 (fun W => W.cell? ⟨w.heap.size, 3, none⟩ = some (.int .i64 (z : Int)) ∧ W.cell? ⟨w.heap.size, 4, none⟩ = some (.slice p runs.length c)) (go_keep)
    (first
      | (go_at_call 66; ((with_reducible refine (HZ.out _).mono ?_)); rintro e w' ⟨rfl, k'⟩; have kk := kk.trans k'; have ob := k'.own ob (by simp); obtain ⟨c0, c1, c2, c3, c4⟩ := ob.c5)
      | (go_at_call 99; ((with_reducible refine (HQ.out _ kk).mono ?_)); rintro e w' ⟨rfl, k'⟩; have kk := kk.trans k'; have ob := k'.own ob (by simp); obtain ⟨c0, c1, c2, c3, c4⟩ := ob.c5))
  all_goals
    go_wp2_with fail
    go_ret
    exact ⟨by rw [← hfin.out]; rfl, kk⟩
set_option maxRecDepth 100000 in
set_option maxHeartbeats 4000000 in
theorem qrec_4 (i z : Nat) (name : List UInt8) (runs : List (Int × Int)) (v : Value) (lo hi : Nat) (w : World) (h : RunsIn w v runs lo hi) (hi1 : i < 4294967296) (hz1 : z ≤ 1048576) (hnm : name.length ≤ 48) (hrf : RunsFit runs) :
    Calls Try.prog 67 #[.agg #[.int .i64 4, .int .u32 (i : Int), .string (bs name), .int .i64 (z : Int), v]] w fun e w' => e = .returned (.string (bs (recL ⟨4, i, name, z, runs⟩))) ∧ Kept [] w w' := by
  obtain ⟨p, c, rfl⟩ := h.shape
  have hl16 := hrf.1
  have hj : ∀ W, Calls Try.prog 58 #[.int .i64 4] W fun e w' => e = .returned (.tuple #[.bool true, .bool false, .bool false]) ∧ W = w' := fun W => qhas 4 W
  have h8 : ∀ W, Calls Try.prog 66 #[.int .u64 4, .int .i64 1] W fun e w' => e = .returned (.string (bs (numL 4 1))) ∧ Kept [] W w' := fun W => jNum1 4 W (by decide)
  have h32 := fun W => jNum4 i W (by omega)
  skip
  have hq := fun W (k : Kept [] w W) => qruns _ runs lo hi W (h.kept0 k) hrf
  have hz := fun W => jNum4 z W (by omega)
  have o0 := Own.new w #[.int .i64 4, .int .u32 (i : Int), .string (bs name), .int .i64 (z : Int), .slice p runs.length c] 50
  have k0 : Kept [] w (w.alloc (.cells #[.int .i64 4, .int .u32 (i : Int), .string (bs name), .int .i64 (z : Int), .slice p runs.length c] 50)) := (Kept.refl _ _).alloc _
  have hre := recL_4 i z name runs
  have s1 : (bs (numL 4 1)).size = 1 := by rw [bs_size, numL_len]
  have s2 : (bs (numL i 4)).size ≤ 60 := by rw [bs_size]; rw [numL_len]; omega
  have s3 : (bs (numL z 4)).size = 4 := by rw [bs_size, numL_len]
  have s4 : (bs (qrunsL runs)).size ≤ 100 := by rw [bs_size, qrunsL_len]; omega
  have RE := Lib.hid hre
  have HJ := Lib.hid hj
  have H8 := Lib.hid h8
  have H32 := Lib.hid h32
  have HQ := Lib.hid hq
  have HZ := Lib.hid hz
  have e0 := ju64_nat i (by omega)
  have e1 := ju64_nat z (by omega)
  clear hre hj h8 h32 h hq hz
  go_enter Try.func67, Try.ntmps67
  go_wp2_with fail
  refine (HJ.out _).mono ?_; rintro e w' ⟨rfl, rfl⟩
  go_wp2_with fail
  refine (H8.out _).mono ?_; rintro e w1 ⟨rfl, k1⟩
  have o1 := k1.own o0 (by simp)
  obtain ⟨a0, a1, a2, a3, a4⟩ := o1.c5
  go_wp2_with fail
  refine (H32.out _).mono ?_; rintro e w2 ⟨rfl, k2⟩
  have oP := k2.own o1 (by simp)
  obtain ⟨b0, b1, b2, b3, b4⟩ := oP.c5
  have kP := (k0.trans k1).trans k2
  clear a0 a1 a2 a3 a4 o1 o0 HJ H8 H32
  go_wp2_with fail
  go_ret
  exact ⟨by rw [RE.out, ← bs_append]; rfl, kP⟩
set_option maxRecDepth 100000 in
set_option maxHeartbeats 4000000 in
theorem qrec_5 (i z : Nat) (name : List UInt8) (runs : List (Int × Int)) (v : Value) (lo hi : Nat) (w : World) (h : RunsIn w v runs lo hi) (hi1 : i < 4294967296) (hz1 : z ≤ 1048576) (hnm : name.length ≤ 48) (hrf : RunsFit runs) :
    Calls Try.prog 67 #[.agg #[.int .i64 5, .int .u32 (i : Int), .string (bs name), .int .i64 (z : Int), v]] w fun e w' => e = .returned (.string (bs (recL ⟨5, i, name, z, runs⟩))) ∧ Kept [] w w' := by
  obtain ⟨p, c, rfl⟩ := h.shape
  have hl16 := hrf.1
  have hj : ∀ W, Calls Try.prog 58 #[.int .i64 5] W fun e w' => e = .returned (.tuple #[.bool true, .bool false, .bool false]) ∧ W = w' := fun W => qhas 5 W
  have h8 : ∀ W, Calls Try.prog 66 #[.int .u64 5, .int .i64 1] W fun e w' => e = .returned (.string (bs (numL 5 1))) ∧ Kept [] W w' := fun W => jNum1 5 W (by decide)
  have h32 := fun W => jNum4 i W (by omega)
  skip
  have hq := fun W (k : Kept [] w W) => qruns _ runs lo hi W (h.kept0 k) hrf
  have hz := fun W => jNum4 z W (by omega)
  have o0 := Own.new w #[.int .i64 5, .int .u32 (i : Int), .string (bs name), .int .i64 (z : Int), .slice p runs.length c] 50
  have k0 : Kept [] w (w.alloc (.cells #[.int .i64 5, .int .u32 (i : Int), .string (bs name), .int .i64 (z : Int), .slice p runs.length c] 50)) := (Kept.refl _ _).alloc _
  have hre := recL_5 i z name runs
  have s1 : (bs (numL 5 1)).size = 1 := by rw [bs_size, numL_len]
  have s2 : (bs (numL i 4)).size ≤ 60 := by rw [bs_size]; rw [numL_len]; omega
  have s3 : (bs (numL z 4)).size = 4 := by rw [bs_size, numL_len]
  have s4 : (bs (qrunsL runs)).size ≤ 100 := by rw [bs_size, qrunsL_len]; omega
  have RE := Lib.hid hre
  have HJ := Lib.hid hj
  have H8 := Lib.hid h8
  have H32 := Lib.hid h32
  have HQ := Lib.hid hq
  have HZ := Lib.hid hz
  have e0 := ju64_nat i (by omega)
  have e1 := ju64_nat z (by omega)
  clear hre hj h8 h32 h hq hz
  go_enter Try.func67, Try.ntmps67
  go_wp2_with fail
  refine (HJ.out _).mono ?_; rintro e w' ⟨rfl, rfl⟩
  go_wp2_with fail
  refine (H8.out _).mono ?_; rintro e w1 ⟨rfl, k1⟩
  have o1 := k1.own o0 (by simp)
  obtain ⟨a0, a1, a2, a3, a4⟩ := o1.c5
  go_wp2_with fail
  refine (H32.out _).mono ?_; rintro e w2 ⟨rfl, k2⟩
  have oP := k2.own o1 (by simp)
  obtain ⟨b0, b1, b2, b3, b4⟩ := oP.c5
  have kP := (k0.trans k1).trans k2
  clear a0 a1 a2 a3 a4 o1 o0 HJ H8 H32
  go_wp2_with fail
  go_ret
  exact ⟨by rw [RE.out, ← bs_append]; rfl, kP⟩
set_option maxRecDepth 100000 in
set_option maxHeartbeats 4000000 in
theorem qrec_6 (i z : Nat) (name : List UInt8) (runs : List (Int × Int)) (v : Value) (lo hi : Nat) (w : World) (h : RunsIn w v runs lo hi) (hi1 : i < 4294967296) (hz1 : z ≤ 1048576) (hnm : name.length ≤ 48) (hrf : RunsFit runs) :
    Calls Try.prog 67 #[.agg #[.int .i64 6, .int .u32 (i : Int), .string (bs name), .int .i64 (z : Int), v]] w fun e w' => e = .returned (.string (bs (recL ⟨6, i, name, z, runs⟩))) ∧ Kept [] w w' := by
  obtain ⟨p, c, rfl⟩ := h.shape
  have hl16 := hrf.1
  have hj : ∀ W, Calls Try.prog 58 #[.int .i64 6] W fun e w' => e = .returned (.tuple #[.bool false, .bool true, .bool false]) ∧ W = w' := fun W => qhas 6 W
  have h8 : ∀ W, Calls Try.prog 66 #[.int .u64 6, .int .i64 1] W fun e w' => e = .returned (.string (bs (numL 6 1))) ∧ Kept [] W w' := fun W => jNum1 6 W (by decide)
  have h32 := fun W => rText (bs name) W (by rw [bs_size]; omega)
  rw [bs_data] at h32
  have hq := fun W (k : Kept [] w W) => qruns _ runs lo hi W (h.kept0 k) hrf
  have hz := fun W => jNum4 z W (by omega)
  have o0 := Own.new w #[.int .i64 6, .int .u32 (i : Int), .string (bs name), .int .i64 (z : Int), .slice p runs.length c] 50
  have k0 : Kept [] w (w.alloc (.cells #[.int .i64 6, .int .u32 (i : Int), .string (bs name), .int .i64 (z : Int), .slice p runs.length c] 50)) := (Kept.refl _ _).alloc _
  have hre := recL_6 i z name runs
  have s1 : (bs (numL 6 1)).size = 1 := by rw [bs_size, numL_len]
  have s2 : (bs (textL name)).size ≤ 60 := by rw [bs_size]; rw [textL_len]; omega
  have s3 : (bs (numL z 4)).size = 4 := by rw [bs_size, numL_len]
  have s4 : (bs (qrunsL runs)).size ≤ 100 := by rw [bs_size, qrunsL_len]; omega
  have RE := Lib.hid hre
  have HJ := Lib.hid hj
  have H8 := Lib.hid h8
  have H32 := Lib.hid h32
  have HQ := Lib.hid hq
  have HZ := Lib.hid hz
  have e0 := ju64_nat i (by omega)
  have e1 := ju64_nat z (by omega)
  clear hre hj h8 h32 h hq hz
  go_enter Try.func67, Try.ntmps67
  go_wp2_with fail
  refine (HJ.out _).mono ?_; rintro e w' ⟨rfl, rfl⟩
  go_wp2_with fail
  refine (H8.out _).mono ?_; rintro e w1 ⟨rfl, k1⟩
  have o1 := k1.own o0 (by simp)
  obtain ⟨a0, a1, a2, a3, a4⟩ := o1.c5
  go_wp2_with fail
  refine (H32.out _).mono ?_; rintro e w2 ⟨rfl, k2⟩
  have oP := k2.own o1 (by simp)
  obtain ⟨b0, b1, b2, b3, b4⟩ := oP.c5
  have kP := (k0.trans k1).trans k2
  clear a0 a1 a2 a3 a4 o1 o0 HJ H8 H32
  go_wp2_with fail
  go_ret
  exact ⟨by rw [RE.out, ← bs_append]; rfl, kP⟩
theorem qrec (r : JRec) (v : Value) (lo hi : Nat) (w : World) (h : RunsIn w v r.runs lo hi) (hok : RecOk r) :
    Calls Try.prog 67 #[.agg (r.cells v)] w fun e w' => e = .returned (.string (bs (recL r))) ∧ Kept [] w w' := by
  obtain ⟨k, id, name, size, runs⟩ := r
  obtain ⟨h1, h6, i0, i1, nm, s0, s1, rf⟩ := hok
  simp only at h h1 h6 i0 i1 nm s0 s1 rf
  obtain ⟨i, rfl⟩ := Int.eq_ofNat_of_zero_le i0
  obtain ⟨z, rfl⟩ := Int.eq_ofNat_of_zero_le s0
  unfold JRec.cells
  simp only
  rcases (by omega : k = 1 ∨ k = 2 ∨ k = 3 ∨ k = 4 ∨ k = 5 ∨ k = 6) with rfl | rfl | rfl | rfl | rfl | rfl
  · exact qrec_1 i z name runs v lo hi w h (by omega) (by omega) nm rf
  · exact qrec_2 i z name runs v lo hi w h (by omega) (by omega) nm rf
  · exact qrec_3 i z name runs v lo hi w h (by omega) (by omega) nm rf
  · exact qrec_4 i z name runs v lo hi w h (by omega) (by omega) nm rf
  · exact qrec_5 i z name runs v lo hi w h (by omega) (by omega) nm rf
  · exact qrec_6 i z name runs v lo hi w h (by omega) (by omega) nm rf
end Go.Proofs.Ytegbekeopgponaa

/- What a walk is told of a list of runs that came in. -/
namespace Go.Proofs.Ytegbekeopgponaa
open Go.ChangeShapes Go.WideShapes Go.ChangeAt Go.RowKit Go.Deep
set_option linter.unusedVariables false
set_option linter.unusedSimpArgs false

def WfRun (a : Int × Int) : Prop := -9223372036854775808 ≤ a.1 ∧ a.1 ≤ 9223372036854775807 ∧ -9223372036854775808 ≤ a.2 ∧ a.2 ≤ 9223372036854775807
section
variable {H : Type} {enc : TypeId × Value → H} {w : World} {base : Nat} {held : Bool} {r : Reach} {b0 : Nat}
set_option maxRecDepth 100000 in
theorem runsW_of_trod {fuel : Nat} {c : Value} {x : DataW H × List MemPlace} (h : DataW.trod enc Try.prog w base (fun _ => true) held fuel 48 [c] = some x) :
    ∃ l, RunsIn w c l 0 w.heap.size ∧ ∀ a ∈ l, WfRun a := by
  rcases open_slice_pairs Try.underlying48 Try.underlying102 (by kernel_rfl) rfl rfl (by kernel_rfl) (by kernel_rfl) h with ⟨e, _⟩ | ⟨a, len, cap, m, n, V0, V1, D0, D1, P0, P1, e, _, hl, hm, hz, _, hx⟩
  · injection e with e
    exact ⟨[], Or.inl ⟨rfl, _, _, e⟩, fun a ha => by cases ha⟩
  · injection e with e
    subst e
    simp only [if_true] at hz
    by_cases h0 : len = 0
    · subst h0; exact ⟨[], Or.inl ⟨rfl, _, _, rfl⟩, fun a ha => by cases ha⟩
    · obtain ⟨b, off, spot⟩ := a
      have hspot : spot = none := by simpa [Addr.add] using World.cell?_spot (hx 0 (by omega)).1
      subst hspot
      have hb : b < w.heap.size := by
        have := (hx 0 (by omega)).1
        rw [Go.WideShapes.add_plain] at this
        exact World.block_lt_of_cell? _ _ this
      refine ⟨(List.range len).map fun i => (intOf (V0 i), intOf (V1 i)), Or.inr ⟨b, off, cap, by simp, fun i hi => ?_, Nat.zero_le _, hb, Nat.le_refl _, fun e => ?_, by simpa using hl, hm⟩, fun a ha => ?_⟩
      · have hi' : i < len := by simpa using hi
        obtain ⟨q0, q1, q2, q3⟩ := hx i (by omega)
        obtain ⟨y0, e0, _⟩ := DataW.trod_int Try.underlying3 q2
        obtain ⟨y1, e1, _⟩ := DataW.trod_int Try.underlying3 q3
        injection e0 with e0
        injection e1 with e1
        rw [Go.WideShapes.add_plain] at q0 q1
        rw [show off + i * 2 + 1 = off + (i * 2 + 1) from rfl, q0, q1]
        simp [e0, e1, intOf]
      · have := congrArg List.length e
        simp at this; omega
      · rw [List.mem_map] at ha
        obtain ⟨i, hi, rfl⟩ := ha
        have hi' : i < len := List.mem_range.1 hi
        obtain ⟨q0, q1, q2, q3⟩ := hx i (by omega)
        obtain ⟨y0, e0, _, u0⟩ := DataW.trod_int Try.underlying3 q2
        obtain ⟨y1, e1, _, u1⟩ := DataW.trod_int Try.underlying3 q3
        injection e0 with e0
        injection e1 with e1
        rw [e0, e1]
        simp only [Lit.wf, Bool.and_eq_true, decide_eq_true_eq] at u0 u1
        exact ⟨u0.1, u0.2, u1.1, u1.2⟩
set_option maxRecDepth 100000 in
theorem open_runs {v : Value} {d : DataW H} {p : List MemPlace} (hv : Value.okWide Try.prog w r b0 48 v) (h : DataW.Trod enc Try.prog w base (fun _ => true) held 48 v d p) : ∃ l, RunsIn w v l 0 w.heap.size ∧ ∀ a ∈ l, WfRun a := by
  obtain ⟨a0, len, cap, rfl⟩ := okWide_slice Try.underlying48 hv
  obtain ⟨fuel, hf⟩ := h
  exact runsW_of_trod (by simpa [Value.cells] using hf)
end
end Go.Proofs.Ytegbekeopgponaa
