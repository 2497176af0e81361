/- Layer 13 (journal): a record's bytes, as the document has them. -/
import Derived.Test.YtakdnchmehmdhaaGreatG01
import Derived.Test.YtakdnchmehmdhaaGreatG17
namespace Go.Proofs.YtakdnchmehmdhaaGreat
open Go.RowKit
set_option linter.unusedVariables false
set_option linter.unusedSimpArgs false

theorem qrunsL_len (l : List (Int × Int)) : (qrunsL l).length = 2 + 4 * l.length := by unfold qrunsL; rw [List.length_append, numL_len, jrunsL_len]
set_option maxRecDepth 100000 in
set_option maxHeartbeats 4000000 in
theorem qrec_1 (i z : Nat) (name : List UInt8) (runs : List (Int × Int)) (v : Value) (lo hi : Nat) (w : World) (h : RunsIn w v runs lo hi) (hi1 : i < 4294967296) (hz1 : z ≤ 1048576) (hnm : name.length ≤ 48) (hrf : RunsFit runs) :
    Calls Tryz.prog 92 #[.agg #[.int .i64 1, .int .u32 (i : Int), .string (bs name), .int .i64 (z : Int), v]] w fun e w' => e = .returned (.string (bs (recL ⟨1, i, name, z, runs⟩))) ∧ Kept [] w w' := by
  obtain ⟨p, c, rfl⟩ := h.shape
  have hl16 := hrf.1
  have hj : ∀ W, Calls Tryz.prog 77 #[.int .i64 1] W fun e w' => e = .returned (.tuple #[.bool true, .bool false, .bool true]) ∧ W = w' := fun W => qhas 1 W
  have h8 : ∀ W, Calls Tryz.prog 54 #[.int .u64 1, .int .i64 1] W fun e w' => e = .returned (.string (bs (numL 1 1))) ∧ Kept [] W w' := fun W => jNum1 1 W (by decide)
  have h32 := fun W => jNum4 i W (by omega)
  skip
  have hq := fun W (k : Kept [] w W) => qruns _ runs lo hi W (h.kept0 k) hrf
  have hz := fun W => jNum4 z W (by omega)
  have o0 := Own.new w #[.int .i64 1, .int .u32 (i : Int), .string (bs name), .int .i64 (z : Int), .slice p runs.length c] 55
  have k0 : Kept [] w (w.alloc (.cells #[.int .i64 1, .int .u32 (i : Int), .string (bs name), .int .i64 (z : Int), .slice p runs.length c] 55)) := (Kept.refl _ _).alloc _
  have hre := recL_1 i z name runs
  have s1 : (bs (numL 1 1)).size = 1 := by rw [bs_size, numL_len]
  have s2 : (bs (numL i 4)).size ≤ 60 := by rw [bs_size]; rw [numL_len]; omega
  have s3 : (bs (numL z 4)).size = 4 := by rw [bs_size, numL_len]
  have s4 : (bs (qrunsL runs)).size ≤ 100 := by rw [bs_size, qrunsL_len]; omega
  have RE := Lib.hid hre
  have HJ := Lib.hid hj
  have H8 := Lib.hid h8
  have H32 := Lib.hid h32
  have HQ := Lib.hid hq
  have HZ := Lib.hid hz
  have e0 := ju64_nat i (by omega)
  have e1 := ju64_nat z (by omega)
  clear hre hj h8 h32 h hq hz
  go_enter Tryz.func92, Tryz.ntmps92
  go_wp2_with fail
  refine (HJ.out _).mono ?_; rintro e w' ⟨rfl, rfl⟩
  go_wp2_with fail
  refine (H8.out _).mono ?_; rintro e w1 ⟨rfl, k1⟩
  have o1 := k1.own o0 (by simp)
  obtain ⟨a0, a1, a2, a3, a4⟩ := o1.c5
  go_wp2_with fail
  refine (H32.out _).mono ?_; rintro e w2 ⟨rfl, k2⟩
  have oP := k2.own o1 (by simp)
  obtain ⟨b0, b1, b2, b3, b4⟩ := oP.c5
  have kP := (k0.trans k1).trans k2
  clear a0 a1 a2 a3 a4 o1 o0 HJ H8 H32
  go_wp2_with fail
  generalize hT0 : bs (numL 1 1) ++ bs (numL i 4) = T0 at *
  have HT0 : Hid (T0 = bs (numL 1 1 ++ numL i 4)) := Lib.hid (by rw [← hT0, bs_append])
  have t0 : T0.size ≤ 100 := by rw [HT0.out, bs_size]; simp [numL_len, textL_len]; try omega
  clear hT0
  have hfin : Hid (T0 ++ bs (numL z 4) ++ bs (qrunsL runs) = bs (recL ⟨1, i, name, z, runs⟩)) := Lib.hid (by
    rw [HT0.out, bs_append, bs_append, RE.out]; simp only [List.append_assoc])
  generalize bs (numL z 4) = M1 at *
  generalize bs (qrunsL runs) = M2 at *
  have yy : (T0 ++ M1).size = T0.size + M1.size := ByteArray.size_append
  have qc1 : ∀ W, (Op.stringOp .add T0 M1).run Tryz.prog W = .ok (.string (T0 ++ M1)) W := fun W => by first | (simp [Op.stringOp]; omega)
  have qc2 : ∀ W, (Op.stringOp .add (T0 ++ M1) M2).run Tryz.prog W = .ok (.string (T0 ++ M1 ++ M2)) W := fun W => by first | (simp [Op.stringOp]; omega)
  clear yy
  have kk := kP.drew
  have ob := oP.drew
  go_region_held3 (fun W => W.cell? ⟨w.heap.size, 3, none⟩ = some (.int .i64 (z : Int)) ∧ W.cell? ⟨w.heap.size, 4, none⟩ = some (.slice p runs.length c)) (go_keep)
    (first
      | (go_at_call 54; ((with_reducible refine (HZ.out _).mono ?_)); rintro e w' ⟨rfl, k'⟩; have kk := kk.trans k'; have ob := k'.own ob (by simp); obtain ⟨c0, c1, c2, c3, c4⟩ := ob.c5)
      | (go_at_call 119; ((with_reducible refine (HQ.out _ kk).mono ?_)); rintro e w' ⟨rfl, k'⟩; have kk := kk.trans k'; have ob := k'.own ob (by simp); obtain ⟨c0, c1, c2, c3, c4⟩ := ob.c5))
  all_goals
    go_wp2_with fail
    go_ret
    exact ⟨by rw [← hfin.out]; rfl, kk⟩
set_option maxRecDepth 100000 in
set_option maxHeartbeats 4000000 in
theorem qrec_2 (i z : Nat) (name : List UInt8) (runs : List (Int × Int)) (v : Value) (lo hi : Nat) (w : World) (h : RunsIn w v runs lo hi) (hi1 : i < 4294967296) (hz1 : z ≤ 1048576) (hnm : name.length ≤ 48) (hrf : RunsFit runs) :
    Calls Tryz.prog 92 #[.agg #[.int .i64 2, .int .u32 (i : Int), .string (bs name), .int .i64 (z : Int), v]] w fun e w' => e = .returned (.string (bs (recL ⟨2, i, name, z, runs⟩))) ∧ Kept [] w w' := by
  obtain ⟨p, c, rfl⟩ := h.shape
  have hl16 := hrf.1
  have hj : ∀ W, Calls Tryz.prog 77 #[.int .i64 2] W fun e w' => e = .returned (.tuple #[.bool true, .bool false, .bool true]) ∧ W = w' := fun W => qhas 2 W
  have h8 : ∀ W, Calls Tryz.prog 54 #[.int .u64 2, .int .i64 1] W fun e w' => e = .returned (.string (bs (numL 2 1))) ∧ Kept [] W w' := fun W => jNum1 2 W (by decide)
  have h32 := fun W => jNum4 i W (by omega)
  skip
  have hq := fun W (k : Kept [] w W) => qruns _ runs lo hi W (h.kept0 k) hrf
  have hz := fun W => jNum4 z W (by omega)
  have o0 := Own.new w #[.int .i64 2, .int .u32 (i : Int), .string (bs name), .int .i64 (z : Int), .slice p runs.length c] 55
  have k0 : Kept [] w (w.alloc (.cells #[.int .i64 2, .int .u32 (i : Int), .string (bs name), .int .i64 (z : Int), .slice p runs.length c] 55)) := (Kept.refl _ _).alloc _
  have hre := recL_2 i z name runs
  have s1 : (bs (numL 2 1)).size = 1 := by rw [bs_size, numL_len]
  have s2 : (bs (numL i 4)).size ≤ 60 := by rw [bs_size]; rw [numL_len]; omega
  have s3 : (bs (numL z 4)).size = 4 := by rw [bs_size, numL_len]
  have s4 : (bs (qrunsL runs)).size ≤ 100 := by rw [bs_size, qrunsL_len]; omega
  have RE := Lib.hid hre
  have HJ := Lib.hid hj
  have H8 := Lib.hid h8
  have H32 := Lib.hid h32
  have HQ := Lib.hid hq
  have HZ := Lib.hid hz
  have e0 := ju64_nat i (by omega)
  have e1 := ju64_nat z (by omega)
  clear hre hj h8 h32 h hq hz
  go_enter Tryz.func92, Tryz.ntmps92
  go_wp2_with fail
  refine (HJ.out _).mono ?_; rintro e w' ⟨rfl, rfl⟩
  go_wp2_with fail
  refine (H8.out _).mono ?_; rintro e w1 ⟨rfl, k1⟩
  have o1 := k1.own o0 (by simp)
  obtain ⟨a0, a1, a2, a3, a4⟩ := o1.c5
  go_wp2_with fail
  refine (H32.out _).mono ?_; rintro e w2 ⟨rfl, k2⟩
  have oP := k2.own o1 (by simp)
  obtain ⟨b0, b1, b2, b3, b4⟩ := oP.c5
  have kP := (k0.trans k1).trans k2
  clear a0 a1 a2 a3 a4 o1 o0 HJ H8 H32
  go_wp2_with fail
  generalize hT0 : bs (numL 2 1) ++ bs (numL i 4) = T0 at *
  have HT0 : Hid (T0 = bs (numL 2 1 ++ numL i 4)) := Lib.hid (by rw [← hT0, bs_append])
  have t0 : T0.size ≤ 100 := by rw [HT0.out, bs_size]; simp [numL_len, textL_len]; try omega
  clear hT0
  have hfin : Hid (T0 ++ bs (numL z 4) ++ bs (qrunsL runs) = bs (recL ⟨2, i, name, z, runs⟩)) := Lib.hid (by
    rw [HT0.out, bs_append, bs_append, RE.out]; simp only [List.append_assoc])
  generalize bs (numL z 4) = M1 at *
  generalize bs (qrunsL runs) = M2 at *
  have yy : (T0 ++ M1).size = T0.size + M1.size := ByteArray.size_append
  have qc1 : ∀ W, (Op.stringOp .add T0 M1).run Tryz.prog W = .ok (.string (T0 ++ M1)) W := fun W => by first | (simp [Op.stringOp]; omega)
  have qc2 : ∀ W, (Op.stringOp .add (T0 ++ M1) M2).run Tryz.prog W = .ok (.string (T0 ++ M1 ++ M2)) W := fun W => by first | (simp [Op.stringOp]; omega)
  clear yy
  have kk := kP.drew
  have ob := oP.drew
  go_region_held3 (fun W => W.cell? ⟨w.heap.size, 3, none⟩ = some (.int .i64 (z : Int)) ∧ W.cell? ⟨w.heap.size, 4, none⟩ = some (.slice p runs.length c)) (go_keep)
    (first
      | (go_at_call 54; ((with_reducible refine (HZ.out _).mono ?_)); rintro e w' ⟨rfl, k'⟩; have kk := kk.trans k'; have ob := k'.own ob (by simp); obtain ⟨c0, c1, c2, c3, c4⟩ := ob.c5)
      | (go_at_call 119; ((with_reducible refine (HQ.out _ kk).mono ?_)); rintro e w' ⟨rfl, k'⟩; have kk := kk.trans k'; have ob := k'.own ob (by simp); obtain ⟨c0, c1, c2, c3, c4⟩ := ob.c5))
  all_goals
    go_wp2_with fail
    go_ret
    exact ⟨by rw [← hfin.out]; rfl, kk⟩
set_option maxRecDepth 100000 in
set_option maxHeartbeats 4000000 in
theorem qrec_3 (i z : Nat) (name : List UInt8) (runs : List (Int × Int)) (v : Value) (lo hi : Nat) (w : World) (h : RunsIn w v runs lo hi) (hi1 : i < 4294967296) (hz1 : z ≤ 1048576) (hnm : name.length ≤ 48) (hrf : RunsFit runs) :
    Calls Tryz.prog 92 #[.agg #[.int .i64 3, .int .u32 (i : Int), .string (bs name), .int .i64 (z : Int), v]] w fun e w' => e = .returned (.string (bs (recL ⟨3, i, name, z, runs⟩))) ∧ Kept [] w w' := by
  obtain ⟨p, c, rfl⟩ := h.shape
  have hl16 := hrf.1
  have hj : ∀ W, Calls Tryz.prog 77 #[.int .i64 3] W fun e w' => e = .returned (.tuple #[.bool false, .bool true, .bool true]) ∧ W = w' := fun W => qhas 3 W
  have h8 : ∀ W, Calls Tryz.prog 54 #[.int .u64 3, .int .i64 1] W fun e w' => e = .returned (.string (bs (numL 3 1))) ∧ Kept [] W w' := fun W => jNum1 3 W (by decide)
  have h32 := fun W => rText (bs name) W (by rw [bs_size]; omega)
  rw [bs_data] at h32
  have hq := fun W (k : Kept [] w W) => qruns _ runs lo hi W (h.kept0 k) hrf
  have hz := fun W => jNum4 z W (by omega)
  have o0 := Own.new w #[.int .i64 3, .int .u32 (i : Int), .string (bs name), .int .i64 (z : Int), .slice p runs.length c] 55
  have k0 : Kept [] w (w.alloc (.cells #[.int .i64 3, .int .u32 (i : Int), .string (bs name), .int .i64 (z : Int), .slice p runs.length c] 55)) := (Kept.refl _ _).alloc _
  have hre := recL_3 i z name runs
  have s1 : (bs (numL 3 1)).size = 1 := by rw [bs_size, numL_len]
  have s2 : (bs (textL name)).size ≤ 60 := by rw [bs_size]; rw [textL_len]; omega
  have s3 : (bs (numL z 4)).size = 4 := by rw [bs_size, numL_len]
  have s4 : (bs (qrunsL runs)).size ≤ 100 := by rw [bs_size, qrunsL_len]; omega
  have RE := Lib.hid hre
  have HJ := Lib.hid hj
  have H8 := Lib.hid h8
  have H32 := Lib.hid h32
  have HQ := Lib.hid hq
  have HZ := Lib.hid hz
  have e0 := ju64_nat i (by omega)
  have e1 := ju64_nat z (by omega)
  clear hre hj h8 h32 h hq hz
  go_enter Tryz.func92, Tryz.ntmps92
  go_wp2_with fail
  refine (HJ.out _).mono ?_; rintro e w' ⟨rfl, rfl⟩
  go_wp2_with fail
  refine (H8.out _).mono ?_; rintro e w1 ⟨rfl, k1⟩
  have o1 := k1.own o0 (by simp)
  obtain ⟨a0, a1, a2, a3, a4⟩ := o1.c5
  go_wp2_with fail
  refine (H32.out _).mono ?_; rintro e w2 ⟨rfl, k2⟩
  have oP := k2.own o1 (by simp)
  obtain ⟨b0, b1, b2, b3, b4⟩ := oP.c5
  have kP := (k0.trans k1).trans k2
  clear a0 a1 a2 a3 a4 o1 o0 HJ H8 H32
  go_wp2_with fail
  generalize hT0 : bs (numL 3 1) ++ bs (textL name) = T0 at *
  have HT0 : Hid (T0 = bs (numL 3 1 ++ textL name)) := Lib.hid (by rw [← hT0, bs_append])
  have t0 : T0.size ≤ 100 := by rw [HT0.out, bs_size]; simp [numL_len, textL_len]; try omega
  clear hT0
  have hfin : Hid (T0 ++ bs (numL z 4) ++ bs (qrunsL runs) = bs (recL ⟨3, i, name, z, runs⟩)) := Lib.hid (by
    rw [HT0.out, bs_append, bs_append, RE.out]; simp only [List.append_assoc])
  generalize bs (numL z 4) = M1 at *
  generalize bs (qrunsL runs) = M2 at *
  have yy : (T0 ++ M1).size = T0.size + M1.size := ByteArray.size_append
  have qc1 : ∀ W, (Op.stringOp .add T0 M1).run Tryz.prog W = .ok (.string (T0 ++ M1)) W := fun W => by first | (simp [Op.stringOp]; omega)
  have qc2 : ∀ W, (Op.stringOp .add (T0 ++ M1) M2).run Tryz.prog W = .ok (.string (T0 ++ M1 ++ M2)) W := fun W => by first | (simp [Op.stringOp]; omega)
  clear yy
  have kk := kP.drew
  have ob := oP.drew
  go_region_held3 (fun W => W.cell? ⟨w.heap.size, 3, none⟩ = some (.int .i64 (z : Int)) ∧ W.cell? ⟨w.heap.size, 4, none⟩ = some (.slice p runs.length c)) (go_keep)
    (first
      | (go_at_call 54; ((with_reducible refine (HZ.out _).mono ?_)); rintro e w' ⟨rfl, k'⟩; have kk := kk.trans k'; have ob := k'.own ob (by simp); obtain ⟨c0, c1, c2, c3, c4⟩ := ob.c5)
      | (go_at_call 119; ((with_reducible refine (HQ.out _ kk).mono ?_)); rintro e w' ⟨rfl, k'⟩; have kk := kk.trans k'; have ob := k'.own ob (by simp); obtain ⟨c0, c1, c2, c3, c4⟩ := ob.c5))
  all_goals
    go_wp2_with fail
    go_ret
    exact ⟨by rw [← hfin.out]; rfl, kk⟩
set_option maxRecDepth 100000 in
set_option maxHeartbeats 4000000 in
theorem qrec_4 (i z : Nat) (name : List UInt8) (runs : List (Int × Int)) (v : Value) (lo hi : Nat) (w : World) (h : RunsIn w v runs lo hi) (hi1 : i < 4294967296) (hz1 : z ≤ 1048576) (hnm : name.length ≤ 48) (hrf : RunsFit runs) :
    Calls Tryz.prog 92 #[.agg #[.int .i64 4, .int .u32 (i : Int), .string (bs name), .int .i64 (z : Int), v]] w fun e w' => e = .returned (.string (bs (recL ⟨4, i, name, z, runs⟩))) ∧ Kept [] w w' := by
  obtain ⟨p, c, rfl⟩ := h.shape
  have hl16 := hrf.1
  have hj : ∀ W, Calls Tryz.prog 77 #[.int .i64 4] W fun e w' => e = .returned (.tuple #[.bool true, .bool false, .bool false]) ∧ W = w' := fun W => qhas 4 W
  have h8 : ∀ W, Calls Tryz.prog 54 #[.int .u64 4, .int .i64 1] W fun e w' => e = .returned (.string (bs (numL 4 1))) ∧ Kept [] W w' := fun W => jNum1 4 W (by decide)
  have h32 := fun W => jNum4 i W (by omega)
  skip
  have hq := fun W (k : Kept [] w W) => qruns _ runs lo hi W (h.kept0 k) hrf
  have hz := fun W => jNum4 z W (by omega)
  have o0 := Own.new w #[.int .i64 4, .int .u32 (i : Int), .string (bs name), .int .i64 (z : Int), .slice p runs.length c] 55
  have k0 : Kept [] w (w.alloc (.cells #[.int .i64 4, .int .u32 (i : Int), .string (bs name), .int .i64 (z : Int), .slice p runs.length c] 55)) := (Kept.refl _ _).alloc _
  have hre := recL_4 i z name runs
  have s1 : (bs (numL 4 1)).size = 1 := by rw [bs_size, numL_len]
  have s2 : (bs (numL i 4)).size ≤ 60 := by rw [bs_size]; rw [numL_len]; omega
  have s3 : (bs (numL z 4)).size = 4 := by rw [bs_size, numL_len]
  have s4 : (bs (qrunsL runs)).size ≤ 100 := by rw [bs_size, qrunsL_len]; omega
  have RE := Lib.hid hre
  have HJ := Lib.hid hj
  have H8 := Lib.hid h8
  have H32 := Lib.hid h32
  have HQ := Lib.hid hq
  have HZ := Lib.hid hz
  have e0 := ju64_nat i (by omega)
  have e1 := ju64_nat z (by omega)
  clear hre hj h8 h32 h hq hz
  go_enter Tryz.func92, Tryz.ntmps92
  go_wp2_with fail
  refine (HJ.out _).mono ?_; rintro e w' ⟨rfl, rfl⟩
  go_wp2_with fail
  refine (H8.out _).mono ?_; rintro e w1 ⟨rfl, k1⟩
  have o1 := k1.own o0 (by simp)
  obtain ⟨a0, a1, a2, a3, a4⟩ := o1.c5
  go_wp2_with fail
  refine (H32.out _).mono ?_; rintro e w2 ⟨rfl, k2⟩
  have oP := k2.own o1 (by simp)
  obtain ⟨b0, b1, b2, b3, b4⟩ := oP.c5
  have kP := (k0.trans k1).trans k2
  clear a0 a1 a2 a3 a4 o1 o0 HJ H8 H32
  go_wp2_with fail
  go_ret
  exact ⟨by rw [RE.out, ← bs_append]; rfl, kP⟩
set_option maxRecDepth 100000 in
set_option maxHeartbeats 4000000 in
theorem qrec_5 (i z : Nat) (name : List UInt8) (runs : List (Int × Int)) (v : Value) (lo hi : Nat) (w : World) (h : RunsIn w v runs lo hi) (hi1 : i < 4294967296) (hz1 : z ≤ 1048576) (hnm : name.length ≤ 48) (hrf : RunsFit runs) :
    Calls Tryz.prog 92 #[.agg #[.int .i64 5, .int .u32 (i : Int), .string (bs name), .int .i64 (z : Int), v]] w fun e w' => e = .returned (.string (bs (recL ⟨5, i, name, z, runs⟩))) ∧ Kept [] w w' := by
  obtain ⟨p, c, rfl⟩ := h.shape
  have hl16 := hrf.1
  have hj : ∀ W, Calls Tryz.prog 77 #[.int .i64 5] W fun e w' => e = .returned (.tuple #[.bool true, .bool false, .bool false]) ∧ W = w' := fun W => qhas 5 W
  have h8 : ∀ W, Calls Tryz.prog 54 #[.int .u64 5, .int .i64 1] W fun e w' => e = .returned (.string (bs (numL 5 1))) ∧ Kept [] W w' := fun W => jNum1 5 W (by decide)
  have h32 := fun W => jNum4 i W (by omega)
  skip
  have hq := fun W (k : Kept [] w W) => qruns _ runs lo hi W (h.kept0 k) hrf
  have hz := fun W => jNum4 z W (by omega)
  have o0 := Own.new w #[.int .i64 5, .int .u32 (i : Int), .string (bs name), .int .i64 (z : Int), .slice p runs.length c] 55
  have k0 : Kept [] w (w.alloc (.cells #[.int .i64 5, .int .u32 (i : Int), .string (bs name), .int .i64 (z : Int), .slice p runs.length c] 55)) := (Kept.refl _ _).alloc _
  have hre := recL_5 i z name runs
  have s1 : (bs (numL 5 1)).size = 1 := by rw [bs_size, numL_len]
  have s2 : (bs (numL i 4)).size ≤ 60 := by rw [bs_size]; rw [numL_len]; omega
  have s3 : (bs (numL z 4)).size = 4 := by rw [bs_size, numL_len]
  have s4 : (bs (qrunsL runs)).size ≤ 100 := by rw [bs_size, qrunsL_len]; omega
  have RE := Lib.hid hre
  have HJ := Lib.hid hj
  have H8 := Lib.hid h8
  have H32 := Lib.hid h32
  have HQ := Lib.hid hq
  have HZ := Lib.hid hz
  have e0 := ju64_nat i (by omega)
  have e1 := ju64_nat z (by omega)
  clear hre hj h8 h32 h hq hz
  go_enter Tryz.func92, Tryz.ntmps92
  go_wp2_with fail
  refine (HJ.out _).mono ?_; rintro e w' ⟨rfl, rfl⟩
  go_wp2_with fail
  refine (H8.out _).mono ?_; rintro e w1 ⟨rfl, k1⟩
  have o1 := k1.own o0 (by simp)
  obtain ⟨a0, a1, a2, a3, a4⟩ := o1.c5
  go_wp2_with fail
  refine (H32.out _).mono ?_; rintro e w2 ⟨rfl, k2⟩
  have oP := k2.own o1 (by simp)
  obtain ⟨b0, b1, b2, b3, b4⟩ := oP.c5
  have kP := (k0.trans k1).trans k2
  clear a0 a1 a2 a3 a4 o1 o0 HJ H8 H32
  go_wp2_with fail
  go_ret
  exact ⟨by rw [RE.out, ← bs_append]; rfl, kP⟩
set_option maxRecDepth 100000 in
set_option maxHeartbeats 4000000 in
theorem qrec_6 (i z : Nat) (name : List UInt8) (runs : List (Int × Int)) (v : Value) (lo hi : Nat) (w : World) (h : RunsIn w v runs lo hi) (hi1 : i < 4294967296) (hz1 : z ≤ 1048576) (hnm : name.length ≤ 48) (hrf : RunsFit runs) :
    Calls Tryz.prog 92 #[.agg #[.int .i64 6, .int .u32 (i : Int), .string (bs name), .int .i64 (z : Int), v]] w fun e w' => e = .returned (.string (bs (recL ⟨6, i, name, z, runs⟩))) ∧ Kept [] w w' := by
  obtain ⟨p, c, rfl⟩ := h.shape
  have hl16 := hrf.1
  have hj : ∀ W, Calls Tryz.prog 77 #[.int .i64 6] W fun e w' => e = .returned (.tuple #[.bool false, .bool true, .bool false]) ∧ W = w' := fun W => qhas 6 W
  have h8 : ∀ W, Calls Tryz.prog 54 #[.int .u64 6, .int .i64 1] W fun e w' => e = .returned (.string (bs (numL 6 1))) ∧ Kept [] W w' := fun W => jNum1 6 W (by decide)
  have h32 := fun W => rText (bs name) W (by rw [bs_size]; omega)
  rw [bs_data] at h32
  have hq := fun W (k : Kept [] w W) => qruns _ runs lo hi W (h.kept0 k) hrf
  have hz := fun W => jNum4 z W (by omega)
  have o0 := Own.new w #[.int .i64 6, .int .u32 (i : Int), .string (bs name), .int .i64 (z : Int), .slice p runs.length c] 55
  have k0 : Kept [] w (w.alloc (.cells #[.int .i64 6, .int .u32 (i : Int), .string (bs name), .int .i64 (z : Int), .slice p runs.length c] 55)) := (Kept.refl _ _).alloc _
  have hre := recL_6 i z name runs
  have s1 : (bs (numL 6 1)).size = 1 := by rw [bs_size, numL_len]
  have s2 : (bs (textL name)).size ≤ 60 := by rw [bs_size]; rw [textL_len]; omega
  have s3 : (bs (numL z 4)).size = 4 := by rw [bs_size, numL_len]
  have s4 : (bs (qrunsL runs)).size ≤ 100 := by rw [bs_size, qrunsL_len]; omega
  have RE := Lib.hid hre
  have HJ := Lib.hid hj
  have H8 := Lib.hid h8
  have H32 := Lib.hid h32
  have HQ := Lib.hid hq
  have HZ := Lib.hid hz
  have e0 := ju64_nat i (by omega)
  have e1 := ju64_nat z (by omega)
  clear hre hj h8 h32 h hq hz
  go_enter Tryz.func92, Tryz.ntmps92
  go_wp2_with fail
  refine (HJ.out _).mono ?_; rintro e w' ⟨rfl, rfl⟩
  go_wp2_with fail
  refine (H8.out _).mono ?_; rintro e w1 ⟨rfl, k1⟩
  have o1 := k1.own o0 (by simp)
  obtain ⟨a0, a1, a2, a3, a4⟩ := o1.c5
  go_wp2_with fail
  refine (H32.out _).mono ?_; rintro e w2 ⟨rfl, k2⟩
  have oP := k2.own o1 (by simp)
  obtain ⟨b0, b1, b2, b3, b4⟩ := oP.c5
  have kP := (k0.trans k1).trans k2
  clear a0 a1 a2 a3 a4 o1 o0 HJ H8 H32
  go_wp2_with fail
  go_ret
  exact ⟨by rw [RE.out, ← bs_append]; rfl, kP⟩
theorem qrec (r : JRec) (v : Value) (lo hi : Nat) (w : World) (h : RunsIn w v r.runs lo hi) (hok : RecOk r) :
    Calls Tryz.prog 92 #[.agg (r.cells v)] w fun e w' => e = .returned (.string (bs (recL r))) ∧ Kept [] w w' := by
  obtain ⟨k, id, name, size, runs⟩ := r
  obtain ⟨h1, h6, i0, i1, nm, s0, s1, rf⟩ := hok
  simp only at h h1 h6 i0 i1 nm s0 s1 rf
  obtain ⟨i, rfl⟩ := Int.eq_ofNat_of_zero_le i0
  obtain ⟨z, rfl⟩ := Int.eq_ofNat_of_zero_le s0
  unfold JRec.cells
  simp only
  rcases (by omega : k = 1 ∨ k = 2 ∨ k = 3 ∨ k = 4 ∨ k = 5 ∨ k = 6) with rfl | rfl | rfl | rfl | rfl | rfl
  · exact qrec_1 i z name runs v lo hi w h (by omega) (by omega) nm rf
  · exact qrec_2 i z name runs v lo hi w h (by omega) (by omega) nm rf
  · exact qrec_3 i z name runs v lo hi w h (by omega) (by omega) nm rf
  · exact qrec_4 i z name runs v lo hi w h (by omega) (by omega) nm rf
  · exact qrec_5 i z name runs v lo hi w h (by omega) (by omega) nm rf
  · exact qrec_6 i z name runs v lo hi w h (by omega) (by omega) nm rf
/-- a number, stepped. -/
def stp (x : Nat) : Nat := if x % 2 = 1 then x / 2 ^^^ 3988292384 else x / 2
def stpN : Nat → Nat → Nat
  | 0, x => x
  | k + 1, x => stp (stpN k x)
def crcB (x : Nat) (b : UInt8) : Nat := stpN 8 (x ^^^ b.toNat)
def crcX (x : Nat) (l : List UInt8) : Nat := l.foldl crcB x
/-- the sum of bytes. -/
def crc (l : List UInt8) : Nat := 4294967295 - crcX 4294967295 l
theorem stp_bit (x k : Nat) : (stp x).testBit k = (x.testBit (k + 1) ^^ (x.testBit 0 && Nat.testBit 3988292384 k)) := by
  unfold stp
  rw [Nat.testBit_succ, Nat.testBit_zero]
  by_cases h : x % 2 = 1
  · rw [if_pos h, Nat.testBit_xor, decide_eq_true h, Bool.true_and]
  · rw [if_neg h, decide_eq_false h, Bool.false_and, Bool.xor_false]
theorem stp_lt {x : Nat} (h : x < 2 ^ 32) : stp x < 2 ^ 32 := by
  unfold stp
  split
  · exact Nat.xor_lt_two_pow (by omega) (by decide)
  · omega
theorem stpN_lt {x : Nat} (k : Nat) (h : x < 2 ^ 32) : stpN k x < 2 ^ 32 := by
  induction k with
  | zero => exact h
  | succ k ih => exact stp_lt ih
theorem u8_lt (b : UInt8) : b.toNat < 2 ^ 32 := Nat.lt_trans b.toNat_lt (by decide)
theorem crcB_lt {x : Nat} (b : UInt8) (h : x < 2 ^ 32) : crcB x b < 2 ^ 32 := stpN_lt 8 (Nat.xor_lt_two_pow h (u8_lt b))
theorem crcX_lt {x : Nat} (l : List UInt8) (h : x < 2 ^ 32) : crcX x l < 2 ^ 32 := by
  induction l generalizing x with
  | nil => exact h
  | cons b l ih => exact ih (crcB_lt b h)
theorem crc_lt (l : List UInt8) : crc l < 4294967296 := by unfold crc; omega
theorem crcX_snoc (x : Nat) (l : List UInt8) (b : UInt8) : crcX x (l ++ [b]) = crcB (crcX x l) b := by simp [crcX, List.foldl_append]
theorem stp_xor (a c : Nat) : stp (a ^^^ 2 * c) = stp a ^^^ c := by
  apply Nat.eq_of_testBit_eq
  intro k
  rw [stp_bit, Nat.testBit_xor, Nat.testBit_xor, Nat.testBit_xor, stp_bit]
  have e1 : (2 * c).testBit (k + 1) = c.testBit k := by rw [Nat.testBit_succ]; congr 1; omega
  have e2 : (2 * c).testBit 0 = false := by rw [Nat.testBit_zero]; simp
  rw [e1, e2, Bool.xor_false]
  cases a.testBit (k + 1) <;> cases c.testBit k <;> simp
/-! ### bits of a text -/
/-- the bits of a text, the lowest of each byte first; behind it: none. -/
def mb (l : List UInt8) (i : Nat) : Bool := match l[i / 8]? with | some b => b.toNat.testBit (i % 8) | none => false
theorem mb_out (l : List UInt8) (i : Nat) (h : 8 * l.length ≤ i) : mb l i = false := by
  unfold mb; rw [List.getElem?_eq_none (by omega)]
/-- the register, bit by bit. -/
def reg (l : List UInt8) : Nat → Nat
  | 0 => 4294967295
  | i + 1 => stp (reg l i ^^^ (mb l i).toNat)
theorem half_bit (b t : Nat) : b / 2 ^ t ^^^ (b.testBit t).toNat = 2 * (b / 2 ^ (t + 1)) := by
  apply Nat.eq_of_testBit_eq
  intro k
  rw [Nat.testBit_xor, Nat.testBit_div_two_pow]
  cases k with
  | zero =>
    have e : (2 * (b / 2 ^ (t + 1))).testBit 0 = false := by rw [Nat.testBit_zero]; simp
    rw [e]; cases h : b.testBit t <;> simp [h]
  | succ k =>
    have e : (2 * (b / 2 ^ (t + 1))).testBit (k + 1) = (b / 2 ^ (t + 1)).testBit k := by rw [Nat.testBit_succ]; congr 1; omega
    rw [e, Nat.testBit_div_two_pow]
    have e2 : (b.testBit t).toNat.testBit (k + 1) = false := by cases b.testBit t <;> simp [Nat.testBit_succ]
    rw [e2, Bool.xor_false]; congr 1; omega
theorem reg_byte (l : List UInt8) (j : Nat) (hj : j < l.length) (t : Nat) (ht : t ≤ 8) : reg l (8 * j + t) = stpN t (reg l (8 * j) ^^^ l[j].toNat) ^^^ l[j].toNat / 2 ^ t := by
  induction t with
  | zero =>
    show reg l (8 * j) = (reg l (8 * j) ^^^ l[j].toNat) ^^^ _
    rw [Nat.pow_zero, Nat.div_one, Nat.xor_assoc, Nat.xor_self, Nat.xor_zero]
  | succ t ih =>
    have hm : mb l (8 * j + t) = l[j].toNat.testBit t := by
      unfold mb
      have e1 : (8 * j + t) / 8 = j := by omega
      have e2 : (8 * j + t) % 8 = t := by omega
      rw [e1, e2, List.getElem?_eq_getElem hj]
    show stp (reg l (8 * j + t) ^^^ (mb l (8 * j + t)).toNat) = stp (stpN t _) ^^^ _
    rw [ih (by omega), hm, Nat.xor_assoc, half_bit, stp_xor]
theorem reg_end (l : List UInt8) (j : Nat) (hj : j ≤ l.length) : reg l (8 * j) = crcX 4294967295 (l.take j) := by
  induction j with
  | zero => rfl
  | succ j ih =>
    have h := reg_byte l j (by omega) 8 (by omega)
    have e : l[j].toNat / 2 ^ 8 = 0 := Nat.div_eq_of_lt l[j].toNat_lt
    rw [e, Nat.xor_zero] at h
    rw [List.take_succ_eq_append_getElem (by omega), crcX_snoc, ← ih (by omega)]
    exact h
/-! ### long division -/
/-- the polynomial's bits, the highest first. -/
def pb (j : Nat) : Bool := Nat.testBit 4374732215 (32 - j)
theorem pb_poly (k : Nat) : (decide (k + 1 ≤ 32) && pb (k + 1)) = Nat.testBit 3988292384 k := by
  by_cases h : k + 1 ≤ 32
  · rw [decide_eq_true h, Bool.true_and]
    have : ∀ k : Fin 32, pb (k.val + 1) = Nat.testBit 3988292384 k.val := by decide +kernel
    exact this ⟨k, by omega⟩
  · rw [decide_eq_false h, Bool.false_and]
    symm
    apply Nat.testBit_lt_two_pow
    exact Nat.lt_of_lt_of_le (show 3988292384 < 2 ^ 32 by decide) (Nat.pow_le_pow_right (by decide) (by omega))
/-- what stands in the reference's row behind so many places. -/
def fs (l : List UInt8) : Nat → Nat → Bool
  | 0, i => if i < 32 then !(mb l i) else mb l i
  | a + 1, i => if fs l a a && decide (a ≤ i ∧ i < a + 33) then (fs l a i != pb (i - a)) else fs l a i
theorem fs_reg (l : List UInt8) (a i : Nat) (h : a ≤ i) : fs l a i = (mb l i ^^ (reg l a).testBit (i - a)) := by
  induction a generalizing i with
  | zero =>
    show (if i < 32 then _ else _) = _
    have e : (reg l 0).testBit (i - 0) = decide (i < 32) := Nat.testBit_two_pow_sub_one 32 i
    rw [e]
    by_cases h32 : i < 32
    · rw [if_pos h32, decide_eq_true h32]; cases mb l i <;> rfl
    · rw [if_neg h32, decide_eq_false h32]; cases mb l i <;> rfl
  | succ a ih =>
    obtain ⟨k, rfl⟩ : ∃ k, i = a + 1 + k := ⟨i - (a + 1), by omega⟩
    have i1 := ih a (Nat.le_refl _)
    have i2 := ih (a + 1 + k) (by omega)
    have e1 : a + 1 + k - a = k + 1 := by omega
    have e2 : a + 1 + k - (a + 1) = k := by omega
    rw [Nat.sub_self] at i1
    rw [e1] at i2
    show (if fs l a a && decide (a ≤ a + 1 + k ∧ a + 1 + k < a + 33) then (fs l a (a + 1 + k) != pb (a + 1 + k - a)) else fs l a (a + 1 + k)) = (mb l (a + 1 + k) ^^ (stp (reg l a ^^^ (mb l a).toNat)).testBit (a + 1 + k - (a + 1)))
    rw [e1, e2, i2, i1, stp_bit, Nat.testBit_xor, Nat.testBit_xor, ← pb_poly]
    have e3 : (mb l a).toNat.testBit (k + 1) = false := by cases mb l a <;> simp [Nat.testBit_succ]
    have e4 : (mb l a).toNat.testBit 0 = mb l a := by cases mb l a <;> rfl
    have e5 : decide (a ≤ a + 1 + k ∧ a + 1 + k < a + 33) = decide (k + 1 ≤ 32) := by
      rw [decide_eq_decide]; omega
    rw [e3, e4, e5]
    cases mb l a <;> cases (reg l a).testBit 0 <;> cases mb l (a + 1 + k) <;> cases (reg l a).testBit (k + 1) <;> cases decide (k + 1 ≤ 32) <;> cases pb (k + 1) <;> rfl
theorem fs_last (l : List UInt8) (k : Nat) : fs l (8 * l.length) (8 * l.length + k) = (crcX 4294967295 l).testBit k := by
  rw [fs_reg l _ _ (by omega), mb_out l _ (by omega), reg_end l _ (Nat.le_refl _), List.take_length, Bool.false_xor]
  congr 1; omega
theorem crc_bit (l : List UInt8) (k : Nat) : (crc l).testBit k = (decide (k < 32) && !(crcX 4294967295 l).testBit k) := by
  have h := Nat.testBit_two_pow_sub_succ (n := 32) (crcX_lt l (show 4294967295 < 2 ^ 32 by decide)) k
  have e : crc l = 2 ^ 32 - (crcX 4294967295 l + 1) := by unfold crc; omega
  rw [e]; exact h
/-- the sum's digits, the highest first. -/
theorem crc_digit (l : List UInt8) (k : Nat) (h : k < 32) : crc l / 2 ^ k = 2 * (crc l / 2 ^ (k + 1)) + (if fs l (8 * l.length) (8 * l.length + k) = false then 1 else 0) := by
  have hb := crc_bit l k
  rw [decide_eq_true h, Bool.true_and, ← fs_last] at hb
  have e1 : crc l / 2 ^ (k + 1) = crc l / 2 ^ k / 2 := by rw [Nat.pow_succ, Nat.div_div_eq_div_mul]
  have e2 : (crc l).testBit k = decide (crc l / 2 ^ k % 2 = 1) := by rw [Nat.testBit_eq_decide_div_mod_eq]
  rw [e2] at hb
  rw [e1]
  cases hf : fs l (8 * l.length) (8 * l.length + k)
  · rw [hf] at hb
    have : crc l / 2 ^ k % 2 = 1 := by simpa using hb
    simp; omega
  · rw [hf] at hb
    have : ¬ crc l / 2 ^ k % 2 = 1 := by simpa using hb
    simp; omega
end Go.Proofs.YtakdnchmehmdhaaGreat
