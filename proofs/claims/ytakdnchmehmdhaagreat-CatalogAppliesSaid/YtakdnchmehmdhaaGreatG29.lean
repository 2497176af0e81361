/- Layer 13 (journal): which records may be, by the document. -/
import Derived.Test.YtakdnchmehmdhaaGreatG02
import Derived.Test.YtakdnchmehmdhaaGreatG04
import Derived.Test.YtakdnchmehmdhaaGreatG15
import Derived.Deep.RegionHeld3
namespace Go.Proofs.YtakdnchmehmdhaaGreat
open Go.RowKit
set_option linter.unusedVariables false
set_option linter.unusedSimpArgs false

set_option maxRecDepth 100000 in
set_option maxHeartbeats 8000000 in
theorem qmay_fffe (r : JRec) (v : Value) (lo hi : Nat) (w : World) (h : RunsIn w v r.runs lo hi) (hl : r.runs.length ≤ 1000000) (hf : r.fits) (hI : kId r.kind = false) (hN : kName r.kind = false) (hB : kBlob r.kind = false) (hnm : r.name.isEmpty = true) :
    Calls Tryz.prog 40 #[.agg (r.cells v)] w (JMay (mayR r) w) := by
  obtain ⟨k, id, name, size, runs⟩ := r
  obtain ⟨f1, f2, f3, f4⟩ := hf
  simp only at h hl f1 f2 f3 f4 hI hN hB hnm
  obtain ⟨p, c, rfl⟩ := h.shape
  unfold JRec.cells mayR
  simp only
  have hh := fun W => qhas k W
  obtain ⟨id0, id1⟩ := bd32 f2
  have hsb := bd64 f4
  have hsz : (bs name).size = name.length := bs_size name
  unfold maxLen at f3
  rw [hI, hN, hB] at hh ⊢
  have HH := Lib.hid hh
  clear hh f1 f2 hI hN hB
  rcases name_cases name with ⟨nm1, nm2, nm3, nm4⟩ | ⟨nm1, nm2, nm3⟩
  rotate_left
  · rw [nm1] at hnm; cases hnm
  clear hnm
  subst nm1
  have k0 : Kept [] w (w.alloc (.cells #[.int .i64 k, .int .u32 id, .string (bs []), .int .i64 size, .slice p runs.length c] 55)) := (Kept.refl _ _).alloc _
  have o0 := Own.new w #[.int .i64 k, .int .u32 id, .string (bs []), .int .i64 size, .slice p runs.length c] 55
  have hm : mayG false false false id [] size runs = false := by
    unfold mayG
    simp []
  have HM := Lib.hid hm
  clear hm
  go_enter Tryz.func40, Tryz.ntmps40
  go_wp2_with fail
  refine (HH.out _).mono ?_; rintro e w' ⟨rfl, rfl⟩
  go_wp2_with fail
  go_ret
  exact jmay_is HM.out k0
set_option maxRecDepth 100000 in
set_option maxHeartbeats 8000000 in
theorem qmay_fffn (r : JRec) (v : Value) (lo hi : Nat) (w : World) (h : RunsIn w v r.runs lo hi) (hl : r.runs.length ≤ 1000000) (hf : r.fits) (hI : kId r.kind = false) (hN : kName r.kind = false) (hB : kBlob r.kind = false) (hnm : r.name.isEmpty = false) :
    Calls Tryz.prog 40 #[.agg (r.cells v)] w (JMay (mayR r) w) := by
  obtain ⟨k, id, name, size, runs⟩ := r
  obtain ⟨f1, f2, f3, f4⟩ := hf
  simp only at h hl f1 f2 f3 f4 hI hN hB hnm
  obtain ⟨p, c, rfl⟩ := h.shape
  unfold JRec.cells mayR
  simp only
  have hh := fun W => qhas k W
  obtain ⟨id0, id1⟩ := bd32 f2
  have hsb := bd64 f4
  have hsz : (bs name).size = name.length := bs_size name
  unfold maxLen at f3
  rw [hI, hN, hB] at hh ⊢
  have HH := Lib.hid hh
  clear hh f1 f2 hI hN hB
  rcases name_cases name with ⟨nm1, nm2, nm3, nm4⟩ | ⟨nm1, nm2, nm3⟩
  · rw [nm1] at hnm; cases hnm
  clear hnm
  have k0 : Kept [] w (w.alloc (.cells #[.int .i64 k, .int .u32 id, .string (bs name), .int .i64 size, .slice p runs.length c] 55)) := (Kept.refl _ _).alloc _
  have o0 := Own.new w #[.int .i64 k, .int .u32 id, .string (bs name), .int .i64 size, .slice p runs.length c] 55
  have hm : mayG false false false id name size runs = false := by
    unfold mayG
    simp []
  have HM := Lib.hid hm
  clear hm
  go_enter Tryz.func40, Tryz.ntmps40
  go_wp2_with fail
  refine (HH.out _).mono ?_; rintro e w' ⟨rfl, rfl⟩
  go_wp2_with fail
  go_ret
  exact jmay_is HM.out k0
set_option maxRecDepth 100000 in
set_option maxHeartbeats 8000000 in
theorem qmay_ffte (r : JRec) (v : Value) (lo hi : Nat) (w : World) (h : RunsIn w v r.runs lo hi) (hl : r.runs.length ≤ 1000000) (hf : r.fits) (hI : kId r.kind = false) (hN : kName r.kind = false) (hB : kBlob r.kind = true) (hnm : r.name.isEmpty = true) :
    Calls Tryz.prog 40 #[.agg (r.cells v)] w (JMay (mayR r) w) := by
  obtain ⟨k, id, name, size, runs⟩ := r
  obtain ⟨f1, f2, f3, f4⟩ := hf
  simp only at h hl f1 f2 f3 f4 hI hN hB hnm
  obtain ⟨p, c, rfl⟩ := h.shape
  unfold JRec.cells mayR
  simp only
  have hh := fun W => qhas k W
  obtain ⟨id0, id1⟩ := bd32 f2
  have hsb := bd64 f4
  have hsz : (bs name).size = name.length := bs_size name
  unfold maxLen at f3
  rw [hI, hN, hB] at hh ⊢
  have HH := Lib.hid hh
  clear hh f1 f2 hI hN hB
  rcases name_cases name with ⟨nm1, nm2, nm3, nm4⟩ | ⟨nm1, nm2, nm3⟩
  rotate_left
  · rw [nm1] at hnm; cases hnm
  clear hnm
  subst nm1
  have k0 : Kept [] w (w.alloc (.cells #[.int .i64 k, .int .u32 id, .string (bs []), .int .i64 size, .slice p runs.length c] 55)) := (Kept.refl _ _).alloc _
  have o0 := Own.new w #[.int .i64 k, .int .u32 id, .string (bs []), .int .i64 size, .slice p runs.length c] 55
  have hm : mayG false false true id [] size runs = false := by
    unfold mayG
    simp []
  have HM := Lib.hid hm
  clear hm
  go_enter Tryz.func40, Tryz.ntmps40
  go_wp2_with fail
  refine (HH.out _).mono ?_; rintro e w' ⟨rfl, rfl⟩
  go_wp2_with fail
  go_ret
  exact jmay_is HM.out k0
set_option maxRecDepth 100000 in
set_option maxHeartbeats 8000000 in
theorem qmay_fftn (r : JRec) (v : Value) (lo hi : Nat) (w : World) (h : RunsIn w v r.runs lo hi) (hl : r.runs.length ≤ 1000000) (hf : r.fits) (hI : kId r.kind = false) (hN : kName r.kind = false) (hB : kBlob r.kind = true) (hnm : r.name.isEmpty = false) :
    Calls Tryz.prog 40 #[.agg (r.cells v)] w (JMay (mayR r) w) := by
  obtain ⟨k, id, name, size, runs⟩ := r
  obtain ⟨f1, f2, f3, f4⟩ := hf
  simp only at h hl f1 f2 f3 f4 hI hN hB hnm
  obtain ⟨p, c, rfl⟩ := h.shape
  unfold JRec.cells mayR
  simp only
  have hh := fun W => qhas k W
  obtain ⟨id0, id1⟩ := bd32 f2
  have hsb := bd64 f4
  have hsz : (bs name).size = name.length := bs_size name
  unfold maxLen at f3
  rw [hI, hN, hB] at hh ⊢
  have HH := Lib.hid hh
  clear hh f1 f2 hI hN hB
  rcases name_cases name with ⟨nm1, nm2, nm3, nm4⟩ | ⟨nm1, nm2, nm3⟩
  · rw [nm1] at hnm; cases hnm
  clear hnm
  have k0 : Kept [] w (w.alloc (.cells #[.int .i64 k, .int .u32 id, .string (bs name), .int .i64 size, .slice p runs.length c] 55)) := (Kept.refl _ _).alloc _
  have o0 := Own.new w #[.int .i64 k, .int .u32 id, .string (bs name), .int .i64 size, .slice p runs.length c] 55
  have hm : mayG false false true id name size runs = false := by
    unfold mayG
    simp []
  have HM := Lib.hid hm
  clear hm
  go_enter Tryz.func40, Tryz.ntmps40
  go_wp2_with fail
  refine (HH.out _).mono ?_; rintro e w' ⟨rfl, rfl⟩
  go_wp2_with fail
  go_ret
  exact jmay_is HM.out k0
set_option maxRecDepth 100000 in
set_option maxHeartbeats 8000000 in
theorem qmay_ftfe (r : JRec) (v : Value) (lo hi : Nat) (w : World) (h : RunsIn w v r.runs lo hi) (hl : r.runs.length ≤ 1000000) (hf : r.fits) (hI : kId r.kind = false) (hN : kName r.kind = true) (hB : kBlob r.kind = false) (hnm : r.name.isEmpty = true) :
    Calls Tryz.prog 40 #[.agg (r.cells v)] w (JMay (mayR r) w) := by
  obtain ⟨k, id, name, size, runs⟩ := r
  obtain ⟨f1, f2, f3, f4⟩ := hf
  simp only at h hl f1 f2 f3 f4 hI hN hB hnm
  obtain ⟨p, c, rfl⟩ := h.shape
  unfold JRec.cells mayR
  simp only
  have hh := fun W => qhas k W
  obtain ⟨id0, id1⟩ := bd32 f2
  have hsb := bd64 f4
  have hsz : (bs name).size = name.length := bs_size name
  unfold maxLen at f3
  rw [hI, hN, hB] at hh ⊢
  have HH := Lib.hid hh
  clear hh f1 f2 hI hN hB
  rcases name_cases name with ⟨nm1, nm2, nm3, nm4⟩ | ⟨nm1, nm2, nm3⟩
  rotate_left
  · rw [nm1] at hnm; cases hnm
  clear hnm
  subst nm1
  have k0 : Kept [] w (w.alloc (.cells #[.int .i64 k, .int .u32 id, .string (bs []), .int .i64 size, .slice p runs.length c] 55)) := (Kept.refl _ _).alloc _
  have o0 := Own.new w #[.int .i64 k, .int .u32 id, .string (bs []), .int .i64 size, .slice p runs.length c] 55
  rcases (by omega : id = 0 ∨ (1 ≤ id ∧ id ≤ 4294967294) ∨ id = 4294967295) with i1 | ⟨i1, i2⟩ | i1
  · subst i1
    have hm : mayG false true false 0 [] size runs = false := by
      unfold mayG
      simp []
    have HM := Lib.hid hm
    clear hm
    go_enter Tryz.func40, Tryz.ntmps40
    go_wp2_with fail
    refine (HH.out _).mono ?_; rintro e w' ⟨rfl, rfl⟩
    go_wp2_with fail
    go_ret
    exact jmay_is HM.out k0
  · have i3 : ¬ id = 0 := by omega
    have hm : mayG false true false id [] size runs = false := by
      unfold mayG
      simp [i3, i2]
    have HM := Lib.hid hm
    clear hm
    go_enter Tryz.func40, Tryz.ntmps40
    go_wp2_with fail
    refine (HH.out _).mono ?_; rintro e w' ⟨rfl, rfl⟩
    go_wp2_with fail
    go_ret
    exact jmay_is HM.out k0
  · subst i1
    have hm : mayG false true false 4294967295 [] size runs = false := by
      unfold mayG
      simp []
    have HM := Lib.hid hm
    clear hm
    go_enter Tryz.func40, Tryz.ntmps40
    go_wp2_with fail
    refine (HH.out _).mono ?_; rintro e w' ⟨rfl, rfl⟩
    go_wp2_with fail
    go_ret
    exact jmay_is HM.out k0
set_option maxRecDepth 100000 in
set_option maxHeartbeats 8000000 in
theorem qmay_ftfn (r : JRec) (v : Value) (lo hi : Nat) (w : World) (h : RunsIn w v r.runs lo hi) (hl : r.runs.length ≤ 1000000) (hf : r.fits) (hI : kId r.kind = false) (hN : kName r.kind = true) (hB : kBlob r.kind = false) (hnm : r.name.isEmpty = false) :
    Calls Tryz.prog 40 #[.agg (r.cells v)] w (JMay (mayR r) w) := by
  obtain ⟨k, id, name, size, runs⟩ := r
  obtain ⟨f1, f2, f3, f4⟩ := hf
  simp only at h hl f1 f2 f3 f4 hI hN hB hnm
  obtain ⟨p, c, rfl⟩ := h.shape
  unfold JRec.cells mayR
  simp only
  have hh := fun W => qhas k W
  obtain ⟨id0, id1⟩ := bd32 f2
  have hsb := bd64 f4
  have hsz : (bs name).size = name.length := bs_size name
  unfold maxLen at f3
  rw [hI, hN, hB] at hh ⊢
  have HH := Lib.hid hh
  clear hh f1 f2 hI hN hB
  rcases name_cases name with ⟨nm1, nm2, nm3, nm4⟩ | ⟨nm1, nm2, nm3⟩
  · rw [nm1] at hnm; cases hnm
  clear hnm
  have k0 : Kept [] w (w.alloc (.cells #[.int .i64 k, .int .u32 id, .string (bs name), .int .i64 size, .slice p runs.length c] 55)) := (Kept.refl _ _).alloc _
  have o0 := Own.new w #[.int .i64 k, .int .u32 id, .string (bs name), .int .i64 size, .slice p runs.length c] 55
  rcases (by omega : id = 0 ∨ (1 ≤ id ∧ id ≤ 4294967294) ∨ id = 4294967295) with i1 | ⟨i1, i2⟩ | i1
  · subst i1
    rcases (by omega : name.length ≤ 48 ∨ 48 < name.length) with l1 | l1
    · have l3 : (name.length : Int) ≤ 48 := by omega
      rcases (by omega : size = 0 ∨ size ≠ 0) with z1 | z1
      · subst z1
        rcases List.eq_nil_or_concat runs with e1 | ⟨ri, rq, e1⟩
        · subst e1
          have hm : mayG false true false 0 name 0 [] = true := by
            unfold mayG
            simp [plB_zero, nm1, l1]
          have HM := Lib.hid hm
          clear hm
          go_enter Tryz.func40, Tryz.ntmps40
          go_wp2_with fail
          refine (HH.out _).mono ?_; rintro e w' ⟨rfl, rfl⟩
          go_wp2_with fail
          go_ret
          exact jmay_is HM.out k0
        · have e2 : 1 ≤ runs.length := by rw [e1]; simp
          have e3 : (0 : Int) < runs.length := by omega
          have e4 : runs.isEmpty = false := by rw [e1]; simp
          have e5 : ((runs.length : Int) == 0) = false := by rw [beq_eq_false_iff_ne]; omega
          clear e1
          have hm : mayG false true false 0 name 0 runs = false := by
            unfold mayG
            simp [nm1, l1, e4]
          have HM := Lib.hid hm
          clear hm
          go_enter Tryz.func40, Tryz.ntmps40
          go_wp2_with fail
          refine (HH.out _).mono ?_; rintro e w' ⟨rfl, rfl⟩
          go_wp2_with fail
          go_ret
          exact jmay_is HM.out k0
      · have z2 : (size == 0) = false := by simpa using z1
        have z3 : (size != 0) = true := by simpa using z1
        have hm : mayG false true false 0 name size runs = false := by
          unfold mayG
          simp [nm1, l1, z1]
        have HM := Lib.hid hm
        clear hm
        go_enter Tryz.func40, Tryz.ntmps40
        go_wp2_with fail
        refine (HH.out _).mono ?_; rintro e w' ⟨rfl, rfl⟩
        go_wp2_with fail
        go_ret
        exact jmay_is HM.out k0
    · have l2 : ¬ name.length ≤ 48 := by omega
      have l3 : (48 : Int) < name.length := by omega
      have hm : mayG false true false 0 name size runs = false := by
        unfold mayG
        simp [nm1, l2]
      have HM := Lib.hid hm
      clear hm
      go_enter Tryz.func40, Tryz.ntmps40
      go_wp2_with fail
      refine (HH.out _).mono ?_; rintro e w' ⟨rfl, rfl⟩
      go_wp2_with fail
      go_ret
      exact jmay_is HM.out k0
  · have i3 : ¬ id = 0 := by omega
    have hm : mayG false true false id name size runs = false := by
      unfold mayG
      simp [i3, i2]
    have HM := Lib.hid hm
    clear hm
    go_enter Tryz.func40, Tryz.ntmps40
    go_wp2_with fail
    refine (HH.out _).mono ?_; rintro e w' ⟨rfl, rfl⟩
    go_wp2_with fail
    go_ret
    exact jmay_is HM.out k0
  · subst i1
    have hm : mayG false true false 4294967295 name size runs = false := by
      unfold mayG
      simp []
    have HM := Lib.hid hm
    clear hm
    go_enter Tryz.func40, Tryz.ntmps40
    go_wp2_with fail
    refine (HH.out _).mono ?_; rintro e w' ⟨rfl, rfl⟩
    go_wp2_with fail
    go_ret
    exact jmay_is HM.out k0
set_option maxRecDepth 100000 in
set_option maxHeartbeats 8000000 in
theorem qmay_ftte (r : JRec) (v : Value) (lo hi : Nat) (w : World) (h : RunsIn w v r.runs lo hi) (hl : r.runs.length ≤ 1000000) (hf : r.fits) (hI : kId r.kind = false) (hN : kName r.kind = true) (hB : kBlob r.kind = true) (hnm : r.name.isEmpty = true) :
    Calls Tryz.prog 40 #[.agg (r.cells v)] w (JMay (mayR r) w) := by
  obtain ⟨k, id, name, size, runs⟩ := r
  obtain ⟨f1, f2, f3, f4⟩ := hf
  simp only at h hl f1 f2 f3 f4 hI hN hB hnm
  obtain ⟨p, c, rfl⟩ := h.shape
  unfold JRec.cells mayR
  simp only
  have hh := fun W => qhas k W
  obtain ⟨id0, id1⟩ := bd32 f2
  have hsb := bd64 f4
  have hsz : (bs name).size = name.length := bs_size name
  unfold maxLen at f3
  rw [hI, hN, hB] at hh ⊢
  have HH := Lib.hid hh
  clear hh f1 f2 hI hN hB
  rcases name_cases name with ⟨nm1, nm2, nm3, nm4⟩ | ⟨nm1, nm2, nm3⟩
  rotate_left
  · rw [nm1] at hnm; cases hnm
  clear hnm
  subst nm1
  have k0 : Kept [] w (w.alloc (.cells #[.int .i64 k, .int .u32 id, .string (bs []), .int .i64 size, .slice p runs.length c] 55)) := (Kept.refl _ _).alloc _
  have o0 := Own.new w #[.int .i64 k, .int .u32 id, .string (bs []), .int .i64 size, .slice p runs.length c] 55
  rcases (by omega : id = 0 ∨ (1 ≤ id ∧ id ≤ 4294967294) ∨ id = 4294967295) with i1 | ⟨i1, i2⟩ | i1
  · subst i1
    have hm : mayG false true true 0 [] size runs = false := by
      unfold mayG
      simp []
    have HM := Lib.hid hm
    clear hm
    go_enter Tryz.func40, Tryz.ntmps40
    go_wp2_with fail
    refine (HH.out _).mono ?_; rintro e w' ⟨rfl, rfl⟩
    go_wp2_with fail
    go_ret
    exact jmay_is HM.out k0
  · have i3 : ¬ id = 0 := by omega
    have hm : mayG false true true id [] size runs = false := by
      unfold mayG
      simp [i3, i2]
    have HM := Lib.hid hm
    clear hm
    go_enter Tryz.func40, Tryz.ntmps40
    go_wp2_with fail
    refine (HH.out _).mono ?_; rintro e w' ⟨rfl, rfl⟩
    go_wp2_with fail
    go_ret
    exact jmay_is HM.out k0
  · subst i1
    have hm : mayG false true true 4294967295 [] size runs = false := by
      unfold mayG
      simp []
    have HM := Lib.hid hm
    clear hm
    go_enter Tryz.func40, Tryz.ntmps40
    go_wp2_with fail
    refine (HH.out _).mono ?_; rintro e w' ⟨rfl, rfl⟩
    go_wp2_with fail
    go_ret
    exact jmay_is HM.out k0
set_option maxRecDepth 100000 in
set_option maxHeartbeats 8000000 in
theorem qmay_fttn (r : JRec) (v : Value) (lo hi : Nat) (w : World) (h : RunsIn w v r.runs lo hi) (hl : r.runs.length ≤ 1000000) (hf : r.fits) (hI : kId r.kind = false) (hN : kName r.kind = true) (hB : kBlob r.kind = true) (hnm : r.name.isEmpty = false) :
    Calls Tryz.prog 40 #[.agg (r.cells v)] w (JMay (mayR r) w) := by
  obtain ⟨k, id, name, size, runs⟩ := r
  obtain ⟨f1, f2, f3, f4⟩ := hf
  simp only at h hl f1 f2 f3 f4 hI hN hB hnm
  obtain ⟨p, c, rfl⟩ := h.shape
  unfold JRec.cells mayR
  simp only
  have hh := fun W => qhas k W
  obtain ⟨id0, id1⟩ := bd32 f2
  have hsb := bd64 f4
  have hsz : (bs name).size = name.length := bs_size name
  unfold maxLen at f3
  rw [hI, hN, hB] at hh ⊢
  have HH := Lib.hid hh
  clear hh f1 f2 hI hN hB
  rcases name_cases name with ⟨nm1, nm2, nm3, nm4⟩ | ⟨nm1, nm2, nm3⟩
  · rw [nm1] at hnm; cases hnm
  clear hnm
  have k0 : Kept [] w (w.alloc (.cells #[.int .i64 k, .int .u32 id, .string (bs name), .int .i64 size, .slice p runs.length c] 55)) := (Kept.refl _ _).alloc _
  have o0 := Own.new w #[.int .i64 k, .int .u32 id, .string (bs name), .int .i64 size, .slice p runs.length c] 55
  rcases (by omega : id = 0 ∨ (1 ≤ id ∧ id ≤ 4294967294) ∨ id = 4294967295) with i1 | ⟨i1, i2⟩ | i1
  · subst i1
    rcases (by omega : name.length ≤ 48 ∨ 48 < name.length) with l1 | l1
    · have l3 : (name.length : Int) ≤ 48 := by omega
      rcases (by omega : size < 0 ∨ (0 ≤ size ∧ 1048576 < size) ∨ (0 ≤ size ∧ size ≤ 1048576 ∧ 16 < runs.length) ∨ (0 ≤ size ∧ size ≤ 1048576 ∧ runs.length ≤ 16)) with b1 | ⟨b1, b2⟩ | ⟨b1, b2, b3⟩ | ⟨b1, b2, b3⟩
      · have b4 : ¬ 0 ≤ size := by omega
        have hp : plB runs size = false := by unfold plB; simp [b4]
        have hm : mayG false true true 0 name size runs = false := by
          unfold mayG
          simp [hp]
        have HM := Lib.hid hm
        clear hm
        clear hp
        go_enter Tryz.func40, Tryz.ntmps40
        go_wp2_with fail
        refine (HH.out _).mono ?_; rintro e w' ⟨rfl, rfl⟩
        go_wp2_with fail
        go_ret
        exact jmay_is HM.out k0
      · have b4 : ¬ size ≤ 1048576 := by omega
        have hp : plB runs size = false := by unfold plB; simp [b4]
        have hm : mayG false true true 0 name size runs = false := by
          unfold mayG
          simp [hp]
        have HM := Lib.hid hm
        clear hm
        clear hp
        go_enter Tryz.func40, Tryz.ntmps40
        go_wp2_with fail
        refine (HH.out _).mono ?_; rintro e w' ⟨rfl, rfl⟩
        go_wp2_with fail
        go_ret
        exact jmay_is HM.out k0
      · have b4 : ¬ runs.length ≤ 16 := by omega
        have b5 : (16 : Int) < runs.length := by omega
        have hp : plB runs size = false := by unfold plB; simp [b4]
        have hm : mayG false true true 0 name size runs = false := by
          unfold mayG
          simp [hp]
        have HM := Lib.hid hm
        clear hm
        clear hp
        go_enter Tryz.func40, Tryz.ntmps40
        go_wp2_with fail
        refine (HH.out _).mono ?_; rintro e w' ⟨rfl, rfl⟩
        go_wp2_with fail
        go_ret
        exact jmay_is HM.out k0
      · have b5 : (runs.length : Int) ≤ 16 := by omega
        have hr := fun W (kk : Kept [] w W) => rruns _ runs lo hi 0 8192 W (h.kept0 kk) hl (by omega) (by omega) (by omega) (by omega)
        unfold RunsSays at hr
        cases hL : lies 0 8192 runs
        · have hp : plB runs size = false := by unfold plB; simp [hL]
          have hm : mayG false true true 0 name size runs = false := by
            unfold mayG
            simp [hp]
          have HM := Lib.hid hm
          clear hm
          rw [hL, Bool.false_and] at hr
          have HR := Lib.hid hr
          clear hp hr hL
          go_enter Tryz.func40, Tryz.ntmps40
          go_wp2_with fail
          refine (HH.out _).mono ?_; rintro e w' ⟨rfl, rfl⟩
          go_wp2_with fail
          have kk := k0.drew
          have ob := o0.drew
          obtain ⟨c0, c1, c2, c3, c4⟩ := ob.c5
          refine wp_region_held_drew (S := (fun W => W.cell? ⟨w.heap.size, 3, none⟩ = some (.int .i64 size) ∧ W.cell? ⟨w.heap.size, 4, none⟩ = some (.slice p runs.length c))) (by kernel_rfl) (by go_keep) (fun hHeld => ?_)
          refine take_at (i := 0) (d := some 68) (v := ?_) rfl rfl (by kernel_rfl) (by kernel_rfl) (by kernel_rfl) (fun _ _ _ h => h) (Or.inl ⟨by rfl, ?_⟩) (by assumption) ?_
          rotate_left
          · (intro w hSw; (try dsimp only at hSw); go_simp; try with_reducible rfl)
          try simp only [Act.put, List.setIfInBounds_toArray, List.set_cons_zero, List.set_cons_succ]
          refine take_at (i := 1) (d := some 69) (v := ?_) rfl rfl (by kernel_rfl) (by kernel_rfl) (by kernel_rfl) (fun _ _ _ h => h) (Or.inl ⟨by rfl, ?_⟩) (by assumption) ?_
          rotate_left
          · (intro w hSw; (try dsimp only at hSw); go_simp; try with_reducible rfl)
          try simp only [Act.put, List.setIfInBounds_toArray, List.set_cons_zero, List.set_cons_succ]
          refine wpAnyH_ready (rs := [2]) (by kernel_rfl) (by simp) ?_
          refine AllReadyH.cons rfl (fun K hK => ?_) AllReadyH.nil
          go_simp
          ((with_reducible refine (HR.out _ kk).mono ?_)); rintro e w1 ⟨rfl, k1⟩
          have kk := kk.trans k1
          have ob := k1.own ob (by simp)
          obtain ⟨d0, d1, d2, d3, d4⟩ := ob.c5
          go_wp2_with fail
          refine hK.out _ _ ?_ (fun hHeld2 => ?_)
          · exact ⟨d3, d4⟩
          clear hK K hHeld
          try simp only [Act.put, List.setIfInBounds_toArray, List.set_cons_zero, List.set_cons_succ]
          refine take_at (i := 3) (d := some 71) (v := ?_) rfl rfl (by kernel_rfl) (by kernel_rfl) (by kernel_rfl) (fun _ _ _ h => h) (Or.inl ⟨by rfl, ?_⟩) (by assumption) ?_
          rotate_left
          · (intro w hSw; (try dsimp only at hSw); go_simp; try with_reducible rfl)
          try simp only [Act.put, List.setIfInBounds_toArray, List.set_cons_zero, List.set_cons_succ]
          refine take_at (i := 4) (d := some 72) (v := undef) rfl rfl (by kernel_rfl) (by kernel_rfl) (by kernel_rfl) (fun _ _ _ h => h) (Or.inr ⟨by rfl, rfl⟩) (by assumption) ?_
          try simp only [Act.put, List.setIfInBounds_toArray, List.set_cons_zero, List.set_cons_succ]
          refine take_at (i := 5) (d := some 73) (v := undef) rfl rfl (by kernel_rfl) (by kernel_rfl) (by kernel_rfl) (fun _ _ _ h => h) (Or.inr ⟨by rfl, rfl⟩) (by assumption) ?_
          try simp only [Act.put, List.setIfInBounds_toArray, List.set_cons_zero, List.set_cons_succ]
          refine take_at (i := 6) (d := some 74) (v := undef) rfl rfl (by kernel_rfl) (by kernel_rfl) (by kernel_rfl) (fun _ _ _ h => h) (Or.inr ⟨by rfl, rfl⟩) (by assumption) ?_
          try simp only [Act.put, List.setIfInBounds_toArray, List.set_cons_zero, List.set_cons_succ]
          refine take_at (i := 7) (d := some 75) (v := undef) rfl rfl (by kernel_rfl) (by kernel_rfl) (by kernel_rfl) (fun _ _ _ h => h) (Or.inr ⟨by rfl, rfl⟩) (by assumption) ?_
          try simp only [Act.put, List.setIfInBounds_toArray, List.set_cons_zero, List.set_cons_succ]
          refine take_at (i := 8) (d := some 76) (v := undef) rfl rfl (by kernel_rfl) (by kernel_rfl) (by kernel_rfl) (fun _ _ _ h => h) (Or.inr ⟨by rfl, rfl⟩) (by assumption) ?_
          try simp only [Act.put, List.setIfInBounds_toArray, List.set_cons_zero, List.set_cons_succ]
          refine take_at (i := 9) (d := some 77) (v := undef) rfl rfl (by kernel_rfl) (by kernel_rfl) (by kernel_rfl) (fun _ _ _ h => h) (Or.inr ⟨by rfl, rfl⟩) (by assumption) ?_
          try simp only [Act.put, List.setIfInBounds_toArray, List.set_cons_zero, List.set_cons_succ]
          refine take_at (i := 10) (d := some 78) (v := undef) rfl rfl (by kernel_rfl) (by kernel_rfl) (by kernel_rfl) (fun _ _ _ h => h) (Or.inr ⟨by rfl, rfl⟩) (by assumption) ?_
          try simp only [Act.put, List.setIfInBounds_toArray, List.set_cons_zero, List.set_cons_succ]
          refine take_at (i := 11) (d := some 79) (v := ?_) rfl rfl (by kernel_rfl) (by kernel_rfl) (by kernel_rfl) (fun _ _ _ h => h) (Or.inl ⟨by rfl, ?_⟩) (by assumption) ?_
          rotate_left
          · (intro w hSw; (try dsimp only at hSw); go_simp; try with_reducible rfl)
          try simp only [Act.put, List.setIfInBounds_toArray, List.set_cons_zero, List.set_cons_succ]
          refine take_at (i := 12) (d := some 2) (v := ?_) rfl rfl (by kernel_rfl) (by kernel_rfl) (by kernel_rfl) (fun _ _ _ h => h) (Or.inl ⟨by rfl, ?_⟩) (by assumption) ?_
          rotate_left
          · (intro w hSw; (try dsimp only at hSw); go_simp; try with_reducible rfl)
          try simp only [Act.put, List.setIfInBounds_toArray, List.set_cons_zero, List.set_cons_succ]
          refine wpAnyH_done (by kernel_rfl) ?_ _
          go_wp2_with fail
          go_ret
          exact jmay_is HM.out kk
        · have hp : plB runs size = (sumLen runs == need size) := by unfold plB; simp [hL, b1, b2, b3]
          have hm : mayG false true true 0 name size runs = (sumLen runs == need size) := by
            unfold mayG
            simp [hp, nm1, l1]
          have HM := Lib.hid hm
          clear hm
          rw [hL, Bool.true_and, decide_eq_true b3] at hr
          have hs := fun W (kk : Kept [] w W) => rsumlen _ runs lo hi 0 8192 W (h.kept0 kk) hl hL (by omega) (by omega)
          have hn := fun W => rneed size W f4
          have HR := Lib.hid hr
          have HS := Lib.hid hs
          have HN := Lib.hid hn
          clear hp hr hL hs hn h
          generalize sumLen runs = sm at *
          generalize need size = nd at *
          go_enter Tryz.func40, Tryz.ntmps40
          go_wp2_with fail
          refine (HH.out _).mono ?_; rintro e w' ⟨rfl, rfl⟩
          go_wp2_with fail
          have kk := k0.drew
          have ob := o0.drew
          go_region_held3 (fun W => W.cell? ⟨w.heap.size, 3, none⟩ = some (.int .i64 size) ∧ W.cell? ⟨w.heap.size, 4, none⟩ = some (.slice p runs.length c)) (go_keep)
            (first
              | (go_at_call 78; ((with_reducible refine (HR.out _ kk).mono ?_)); rintro e w' ⟨rfl, k'⟩; have kk := kk.trans k'; have ob := k'.own ob (by simp); obtain ⟨c0, c1, c2, c3, c4⟩ := ob.c5)
              | (go_at_call 79; ((with_reducible refine (HS.out _ kk).mono ?_)); rintro e w' ⟨rfl, rfl⟩)
              | (go_at_call 80; ((with_reducible refine (HN.out _).mono ?_)); rintro e w' ⟨rfl, rfl⟩))
          all_goals
            go_wp2_with fail
            go_ret
            exact jmay_is HM.out kk
    · have l2 : ¬ name.length ≤ 48 := by omega
      have l3 : (48 : Int) < name.length := by omega
      have hm : mayG false true true 0 name size runs = false := by
        unfold mayG
        simp [nm1, l2]
      have HM := Lib.hid hm
      clear hm
      go_enter Tryz.func40, Tryz.ntmps40
      go_wp2_with fail
      refine (HH.out _).mono ?_; rintro e w' ⟨rfl, rfl⟩
      go_wp2_with fail
      go_ret
      exact jmay_is HM.out k0
  · have i3 : ¬ id = 0 := by omega
    have hm : mayG false true true id name size runs = false := by
      unfold mayG
      simp [i3, i2]
    have HM := Lib.hid hm
    clear hm
    go_enter Tryz.func40, Tryz.ntmps40
    go_wp2_with fail
    refine (HH.out _).mono ?_; rintro e w' ⟨rfl, rfl⟩
    go_wp2_with fail
    go_ret
    exact jmay_is HM.out k0
  · subst i1
    have hm : mayG false true true 4294967295 name size runs = false := by
      unfold mayG
      simp []
    have HM := Lib.hid hm
    clear hm
    go_enter Tryz.func40, Tryz.ntmps40
    go_wp2_with fail
    refine (HH.out _).mono ?_; rintro e w' ⟨rfl, rfl⟩
    go_wp2_with fail
    go_ret
    exact jmay_is HM.out k0
set_option maxRecDepth 100000 in
set_option maxHeartbeats 8000000 in
theorem qmay_tffe (r : JRec) (v : Value) (lo hi : Nat) (w : World) (h : RunsIn w v r.runs lo hi) (hl : r.runs.length ≤ 1000000) (hf : r.fits) (hI : kId r.kind = true) (hN : kName r.kind = false) (hB : kBlob r.kind = false) (hnm : r.name.isEmpty = true) :
    Calls Tryz.prog 40 #[.agg (r.cells v)] w (JMay (mayR r) w) := by
  obtain ⟨k, id, name, size, runs⟩ := r
  obtain ⟨f1, f2, f3, f4⟩ := hf
  simp only at h hl f1 f2 f3 f4 hI hN hB hnm
  obtain ⟨p, c, rfl⟩ := h.shape
  unfold JRec.cells mayR
  simp only
  have hh := fun W => qhas k W
  obtain ⟨id0, id1⟩ := bd32 f2
  have hsb := bd64 f4
  have hsz : (bs name).size = name.length := bs_size name
  unfold maxLen at f3
  rw [hI, hN, hB] at hh ⊢
  have HH := Lib.hid hh
  clear hh f1 f2 hI hN hB
  rcases name_cases name with ⟨nm1, nm2, nm3, nm4⟩ | ⟨nm1, nm2, nm3⟩
  rotate_left
  · rw [nm1] at hnm; cases hnm
  clear hnm
  subst nm1
  have k0 : Kept [] w (w.alloc (.cells #[.int .i64 k, .int .u32 id, .string (bs []), .int .i64 size, .slice p runs.length c] 55)) := (Kept.refl _ _).alloc _
  have o0 := Own.new w #[.int .i64 k, .int .u32 id, .string (bs []), .int .i64 size, .slice p runs.length c] 55
  rcases (by omega : id = 0 ∨ (1 ≤ id ∧ id ≤ 4294967294) ∨ id = 4294967295) with i1 | ⟨i1, i2⟩ | i1
  · subst i1
    have hm : mayG true false false 0 [] size runs = false := by
      unfold mayG
      simp []
    have HM := Lib.hid hm
    clear hm
    go_enter Tryz.func40, Tryz.ntmps40
    go_wp2_with fail
    refine (HH.out _).mono ?_; rintro e w' ⟨rfl, rfl⟩
    go_wp2_with fail
    go_ret
    exact jmay_is HM.out k0
  · have i3 : ¬ id = 0 := by omega
    rcases (by omega : size = 0 ∨ size ≠ 0) with z1 | z1
    · subst z1
      rcases List.eq_nil_or_concat runs with e1 | ⟨ri, rq, e1⟩
      · subst e1
        have hm : mayG true false false id [] 0 [] = true := by
          unfold mayG
          simp [plB_zero, i3, i2]
        have HM := Lib.hid hm
        clear hm
        go_enter Tryz.func40, Tryz.ntmps40
        go_wp2_with fail
        refine (HH.out _).mono ?_; rintro e w' ⟨rfl, rfl⟩
        go_wp2_with fail
        go_ret
        exact jmay_is HM.out k0
      · have e2 : 1 ≤ runs.length := by rw [e1]; simp
        have e3 : (0 : Int) < runs.length := by omega
        have e4 : runs.isEmpty = false := by rw [e1]; simp
        have e5 : ((runs.length : Int) == 0) = false := by rw [beq_eq_false_iff_ne]; omega
        clear e1
        have hm : mayG true false false id [] 0 runs = false := by
          unfold mayG
          simp [i3, i2, e4]
        have HM := Lib.hid hm
        clear hm
        go_enter Tryz.func40, Tryz.ntmps40
        go_wp2_with fail
        refine (HH.out _).mono ?_; rintro e w' ⟨rfl, rfl⟩
        go_wp2_with fail
        go_ret
        exact jmay_is HM.out k0
    · have z2 : (size == 0) = false := by simpa using z1
      have z3 : (size != 0) = true := by simpa using z1
      have hm : mayG true false false id [] size runs = false := by
        unfold mayG
        simp [i3, i2, z1]
      have HM := Lib.hid hm
      clear hm
      go_enter Tryz.func40, Tryz.ntmps40
      go_wp2_with fail
      refine (HH.out _).mono ?_; rintro e w' ⟨rfl, rfl⟩
      go_wp2_with fail
      go_ret
      exact jmay_is HM.out k0
  · subst i1
    have hm : mayG true false false 4294967295 [] size runs = false := by
      unfold mayG
      simp []
    have HM := Lib.hid hm
    clear hm
    go_enter Tryz.func40, Tryz.ntmps40
    go_wp2_with fail
    refine (HH.out _).mono ?_; rintro e w' ⟨rfl, rfl⟩
    go_wp2_with fail
    go_ret
    exact jmay_is HM.out k0
set_option maxRecDepth 100000 in
set_option maxHeartbeats 8000000 in
theorem qmay_tffn (r : JRec) (v : Value) (lo hi : Nat) (w : World) (h : RunsIn w v r.runs lo hi) (hl : r.runs.length ≤ 1000000) (hf : r.fits) (hI : kId r.kind = true) (hN : kName r.kind = false) (hB : kBlob r.kind = false) (hnm : r.name.isEmpty = false) :
    Calls Tryz.prog 40 #[.agg (r.cells v)] w (JMay (mayR r) w) := by
  obtain ⟨k, id, name, size, runs⟩ := r
  obtain ⟨f1, f2, f3, f4⟩ := hf
  simp only at h hl f1 f2 f3 f4 hI hN hB hnm
  obtain ⟨p, c, rfl⟩ := h.shape
  unfold JRec.cells mayR
  simp only
  have hh := fun W => qhas k W
  obtain ⟨id0, id1⟩ := bd32 f2
  have hsb := bd64 f4
  have hsz : (bs name).size = name.length := bs_size name
  unfold maxLen at f3
  rw [hI, hN, hB] at hh ⊢
  have HH := Lib.hid hh
  clear hh f1 f2 hI hN hB
  rcases name_cases name with ⟨nm1, nm2, nm3, nm4⟩ | ⟨nm1, nm2, nm3⟩
  · rw [nm1] at hnm; cases hnm
  clear hnm
  have k0 : Kept [] w (w.alloc (.cells #[.int .i64 k, .int .u32 id, .string (bs name), .int .i64 size, .slice p runs.length c] 55)) := (Kept.refl _ _).alloc _
  have o0 := Own.new w #[.int .i64 k, .int .u32 id, .string (bs name), .int .i64 size, .slice p runs.length c] 55
  rcases (by omega : id = 0 ∨ (1 ≤ id ∧ id ≤ 4294967294) ∨ id = 4294967295) with i1 | ⟨i1, i2⟩ | i1
  · subst i1
    have hm : mayG true false false 0 name size runs = false := by
      unfold mayG
      simp []
    have HM := Lib.hid hm
    clear hm
    go_enter Tryz.func40, Tryz.ntmps40
    go_wp2_with fail
    refine (HH.out _).mono ?_; rintro e w' ⟨rfl, rfl⟩
    go_wp2_with fail
    go_ret
    exact jmay_is HM.out k0
  · have i3 : ¬ id = 0 := by omega
    have hm : mayG true false false id name size runs = false := by
      unfold mayG
      simp [i3, i2, nm1]
    have HM := Lib.hid hm
    clear hm
    go_enter Tryz.func40, Tryz.ntmps40
    go_wp2_with fail
    refine (HH.out _).mono ?_; rintro e w' ⟨rfl, rfl⟩
    go_wp2_with fail
    go_ret
    exact jmay_is HM.out k0
  · subst i1
    have hm : mayG true false false 4294967295 name size runs = false := by
      unfold mayG
      simp []
    have HM := Lib.hid hm
    clear hm
    go_enter Tryz.func40, Tryz.ntmps40
    go_wp2_with fail
    refine (HH.out _).mono ?_; rintro e w' ⟨rfl, rfl⟩
    go_wp2_with fail
    go_ret
    exact jmay_is HM.out k0
set_option maxRecDepth 100000 in
set_option maxHeartbeats 8000000 in
theorem qmay_tfte (r : JRec) (v : Value) (lo hi : Nat) (w : World) (h : RunsIn w v r.runs lo hi) (hl : r.runs.length ≤ 1000000) (hf : r.fits) (hI : kId r.kind = true) (hN : kName r.kind = false) (hB : kBlob r.kind = true) (hnm : r.name.isEmpty = true) :
    Calls Tryz.prog 40 #[.agg (r.cells v)] w (JMay (mayR r) w) := by
  obtain ⟨k, id, name, size, runs⟩ := r
  obtain ⟨f1, f2, f3, f4⟩ := hf
  simp only at h hl f1 f2 f3 f4 hI hN hB hnm
  obtain ⟨p, c, rfl⟩ := h.shape
  unfold JRec.cells mayR
  simp only
  have hh := fun W => qhas k W
  obtain ⟨id0, id1⟩ := bd32 f2
  have hsb := bd64 f4
  have hsz : (bs name).size = name.length := bs_size name
  unfold maxLen at f3
  rw [hI, hN, hB] at hh ⊢
  have HH := Lib.hid hh
  clear hh f1 f2 hI hN hB
  rcases name_cases name with ⟨nm1, nm2, nm3, nm4⟩ | ⟨nm1, nm2, nm3⟩
  rotate_left
  · rw [nm1] at hnm; cases hnm
  clear hnm
  subst nm1
  have k0 : Kept [] w (w.alloc (.cells #[.int .i64 k, .int .u32 id, .string (bs []), .int .i64 size, .slice p runs.length c] 55)) := (Kept.refl _ _).alloc _
  have o0 := Own.new w #[.int .i64 k, .int .u32 id, .string (bs []), .int .i64 size, .slice p runs.length c] 55
  rcases (by omega : id = 0 ∨ (1 ≤ id ∧ id ≤ 4294967294) ∨ id = 4294967295) with i1 | ⟨i1, i2⟩ | i1
  · subst i1
    have hm : mayG true false true 0 [] size runs = false := by
      unfold mayG
      simp []
    have HM := Lib.hid hm
    clear hm
    go_enter Tryz.func40, Tryz.ntmps40
    go_wp2_with fail
    refine (HH.out _).mono ?_; rintro e w' ⟨rfl, rfl⟩
    go_wp2_with fail
    go_ret
    exact jmay_is HM.out k0
  · have i3 : ¬ id = 0 := by omega
    rcases (by omega : size < 0 ∨ (0 ≤ size ∧ 1048576 < size) ∨ (0 ≤ size ∧ size ≤ 1048576 ∧ 16 < runs.length) ∨ (0 ≤ size ∧ size ≤ 1048576 ∧ runs.length ≤ 16)) with b1 | ⟨b1, b2⟩ | ⟨b1, b2, b3⟩ | ⟨b1, b2, b3⟩
    · have b4 : ¬ 0 ≤ size := by omega
      have hp : plB runs size = false := by unfold plB; simp [b4]
      have hm : mayG true false true id [] size runs = false := by
        unfold mayG
        simp [hp]
      have HM := Lib.hid hm
      clear hm
      clear hp
      go_enter Tryz.func40, Tryz.ntmps40
      go_wp2_with fail
      refine (HH.out _).mono ?_; rintro e w' ⟨rfl, rfl⟩
      go_wp2_with fail
      go_ret
      exact jmay_is HM.out k0
    · have b4 : ¬ size ≤ 1048576 := by omega
      have hp : plB runs size = false := by unfold plB; simp [b4]
      have hm : mayG true false true id [] size runs = false := by
        unfold mayG
        simp [hp]
      have HM := Lib.hid hm
      clear hm
      clear hp
      go_enter Tryz.func40, Tryz.ntmps40
      go_wp2_with fail
      refine (HH.out _).mono ?_; rintro e w' ⟨rfl, rfl⟩
      go_wp2_with fail
      go_ret
      exact jmay_is HM.out k0
    · have b4 : ¬ runs.length ≤ 16 := by omega
      have b5 : (16 : Int) < runs.length := by omega
      have hp : plB runs size = false := by unfold plB; simp [b4]
      have hm : mayG true false true id [] size runs = false := by
        unfold mayG
        simp [hp]
      have HM := Lib.hid hm
      clear hm
      clear hp
      go_enter Tryz.func40, Tryz.ntmps40
      go_wp2_with fail
      refine (HH.out _).mono ?_; rintro e w' ⟨rfl, rfl⟩
      go_wp2_with fail
      go_ret
      exact jmay_is HM.out k0
    · have b5 : (runs.length : Int) ≤ 16 := by omega
      have hr := fun W (kk : Kept [] w W) => rruns _ runs lo hi 0 8192 W (h.kept0 kk) hl (by omega) (by omega) (by omega) (by omega)
      unfold RunsSays at hr
      cases hL : lies 0 8192 runs
      · have hp : plB runs size = false := by unfold plB; simp [hL]
        have hm : mayG true false true id [] size runs = false := by
          unfold mayG
          simp [hp]
        have HM := Lib.hid hm
        clear hm
        rw [hL, Bool.false_and] at hr
        have HR := Lib.hid hr
        clear hp hr hL
        go_enter Tryz.func40, Tryz.ntmps40
        go_wp2_with fail
        refine (HH.out _).mono ?_; rintro e w' ⟨rfl, rfl⟩
        go_wp2_with fail
        have kk := k0.drew
        have ob := o0.drew
        obtain ⟨c0, c1, c2, c3, c4⟩ := ob.c5
        refine wp_region_held_drew (S := (fun W => W.cell? ⟨w.heap.size, 3, none⟩ = some (.int .i64 size) ∧ W.cell? ⟨w.heap.size, 4, none⟩ = some (.slice p runs.length c))) (by kernel_rfl) (by go_keep) (fun hHeld => ?_)
        refine take_at (i := 0) (d := some 68) (v := ?_) rfl rfl (by kernel_rfl) (by kernel_rfl) (by kernel_rfl) (fun _ _ _ h => h) (Or.inl ⟨by rfl, ?_⟩) (by assumption) ?_
        rotate_left
        · (intro w hSw; (try dsimp only at hSw); go_simp; try with_reducible rfl)
        try simp only [Act.put, List.setIfInBounds_toArray, List.set_cons_zero, List.set_cons_succ]
        refine take_at (i := 1) (d := some 69) (v := ?_) rfl rfl (by kernel_rfl) (by kernel_rfl) (by kernel_rfl) (fun _ _ _ h => h) (Or.inl ⟨by rfl, ?_⟩) (by assumption) ?_
        rotate_left
        · (intro w hSw; (try dsimp only at hSw); go_simp; try with_reducible rfl)
        try simp only [Act.put, List.setIfInBounds_toArray, List.set_cons_zero, List.set_cons_succ]
        refine wpAnyH_ready (rs := [2]) (by kernel_rfl) (by simp) ?_
        refine AllReadyH.cons rfl (fun K hK => ?_) AllReadyH.nil
        go_simp
        ((with_reducible refine (HR.out _ kk).mono ?_)); rintro e w1 ⟨rfl, k1⟩
        have kk := kk.trans k1
        have ob := k1.own ob (by simp)
        obtain ⟨d0, d1, d2, d3, d4⟩ := ob.c5
        go_wp2_with fail
        refine hK.out _ _ ?_ (fun hHeld2 => ?_)
        · exact ⟨d3, d4⟩
        clear hK K hHeld
        try simp only [Act.put, List.setIfInBounds_toArray, List.set_cons_zero, List.set_cons_succ]
        refine take_at (i := 3) (d := some 71) (v := ?_) rfl rfl (by kernel_rfl) (by kernel_rfl) (by kernel_rfl) (fun _ _ _ h => h) (Or.inl ⟨by rfl, ?_⟩) (by assumption) ?_
        rotate_left
        · (intro w hSw; (try dsimp only at hSw); go_simp; try with_reducible rfl)
        try simp only [Act.put, List.setIfInBounds_toArray, List.set_cons_zero, List.set_cons_succ]
        refine take_at (i := 4) (d := some 72) (v := undef) rfl rfl (by kernel_rfl) (by kernel_rfl) (by kernel_rfl) (fun _ _ _ h => h) (Or.inr ⟨by rfl, rfl⟩) (by assumption) ?_
        try simp only [Act.put, List.setIfInBounds_toArray, List.set_cons_zero, List.set_cons_succ]
        refine take_at (i := 5) (d := some 73) (v := undef) rfl rfl (by kernel_rfl) (by kernel_rfl) (by kernel_rfl) (fun _ _ _ h => h) (Or.inr ⟨by rfl, rfl⟩) (by assumption) ?_
        try simp only [Act.put, List.setIfInBounds_toArray, List.set_cons_zero, List.set_cons_succ]
        refine take_at (i := 6) (d := some 74) (v := undef) rfl rfl (by kernel_rfl) (by kernel_rfl) (by kernel_rfl) (fun _ _ _ h => h) (Or.inr ⟨by rfl, rfl⟩) (by assumption) ?_
        try simp only [Act.put, List.setIfInBounds_toArray, List.set_cons_zero, List.set_cons_succ]
        refine take_at (i := 7) (d := some 75) (v := undef) rfl rfl (by kernel_rfl) (by kernel_rfl) (by kernel_rfl) (fun _ _ _ h => h) (Or.inr ⟨by rfl, rfl⟩) (by assumption) ?_
        try simp only [Act.put, List.setIfInBounds_toArray, List.set_cons_zero, List.set_cons_succ]
        refine take_at (i := 8) (d := some 76) (v := undef) rfl rfl (by kernel_rfl) (by kernel_rfl) (by kernel_rfl) (fun _ _ _ h => h) (Or.inr ⟨by rfl, rfl⟩) (by assumption) ?_
        try simp only [Act.put, List.setIfInBounds_toArray, List.set_cons_zero, List.set_cons_succ]
        refine take_at (i := 9) (d := some 77) (v := undef) rfl rfl (by kernel_rfl) (by kernel_rfl) (by kernel_rfl) (fun _ _ _ h => h) (Or.inr ⟨by rfl, rfl⟩) (by assumption) ?_
        try simp only [Act.put, List.setIfInBounds_toArray, List.set_cons_zero, List.set_cons_succ]
        refine take_at (i := 10) (d := some 78) (v := undef) rfl rfl (by kernel_rfl) (by kernel_rfl) (by kernel_rfl) (fun _ _ _ h => h) (Or.inr ⟨by rfl, rfl⟩) (by assumption) ?_
        try simp only [Act.put, List.setIfInBounds_toArray, List.set_cons_zero, List.set_cons_succ]
        refine take_at (i := 11) (d := some 79) (v := ?_) rfl rfl (by kernel_rfl) (by kernel_rfl) (by kernel_rfl) (fun _ _ _ h => h) (Or.inl ⟨by rfl, ?_⟩) (by assumption) ?_
        rotate_left
        · (intro w hSw; (try dsimp only at hSw); go_simp; try with_reducible rfl)
        try simp only [Act.put, List.setIfInBounds_toArray, List.set_cons_zero, List.set_cons_succ]
        refine take_at (i := 12) (d := some 2) (v := ?_) rfl rfl (by kernel_rfl) (by kernel_rfl) (by kernel_rfl) (fun _ _ _ h => h) (Or.inl ⟨by rfl, ?_⟩) (by assumption) ?_
        rotate_left
        · (intro w hSw; (try dsimp only at hSw); go_simp; try with_reducible rfl)
        try simp only [Act.put, List.setIfInBounds_toArray, List.set_cons_zero, List.set_cons_succ]
        refine wpAnyH_done (by kernel_rfl) ?_ _
        go_wp2_with fail
        go_ret
        exact jmay_is HM.out kk
      · have hp : plB runs size = (sumLen runs == need size) := by unfold plB; simp [hL, b1, b2, b3]
        have hm : mayG true false true id [] size runs = (sumLen runs == need size) := by
          unfold mayG
          simp [hp, i3, i2]
        have HM := Lib.hid hm
        clear hm
        rw [hL, Bool.true_and, decide_eq_true b3] at hr
        have hs := fun W (kk : Kept [] w W) => rsumlen _ runs lo hi 0 8192 W (h.kept0 kk) hl hL (by omega) (by omega)
        have hn := fun W => rneed size W f4
        have HR := Lib.hid hr
        have HS := Lib.hid hs
        have HN := Lib.hid hn
        clear hp hr hL hs hn h
        generalize sumLen runs = sm at *
        generalize need size = nd at *
        go_enter Tryz.func40, Tryz.ntmps40
        go_wp2_with fail
        refine (HH.out _).mono ?_; rintro e w' ⟨rfl, rfl⟩
        go_wp2_with fail
        have kk := k0.drew
        have ob := o0.drew
        go_region_held3 (fun W => W.cell? ⟨w.heap.size, 3, none⟩ = some (.int .i64 size) ∧ W.cell? ⟨w.heap.size, 4, none⟩ = some (.slice p runs.length c)) (go_keep)
          (first
            | (go_at_call 78; ((with_reducible refine (HR.out _ kk).mono ?_)); rintro e w' ⟨rfl, k'⟩; have kk := kk.trans k'; have ob := k'.own ob (by simp); obtain ⟨c0, c1, c2, c3, c4⟩ := ob.c5)
            | (go_at_call 79; ((with_reducible refine (HS.out _ kk).mono ?_)); rintro e w' ⟨rfl, rfl⟩)
            | (go_at_call 80; ((with_reducible refine (HN.out _).mono ?_)); rintro e w' ⟨rfl, rfl⟩))
        all_goals
          go_wp2_with fail
          go_ret
          exact jmay_is HM.out kk
  · subst i1
    have hm : mayG true false true 4294967295 [] size runs = false := by
      unfold mayG
      simp []
    have HM := Lib.hid hm
    clear hm
    go_enter Tryz.func40, Tryz.ntmps40
    go_wp2_with fail
    refine (HH.out _).mono ?_; rintro e w' ⟨rfl, rfl⟩
    go_wp2_with fail
    go_ret
    exact jmay_is HM.out k0
set_option maxRecDepth 100000 in
set_option maxHeartbeats 8000000 in
theorem qmay_tftn (r : JRec) (v : Value) (lo hi : Nat) (w : World) (h : RunsIn w v r.runs lo hi) (hl : r.runs.length ≤ 1000000) (hf : r.fits) (hI : kId r.kind = true) (hN : kName r.kind = false) (hB : kBlob r.kind = true) (hnm : r.name.isEmpty = false) :
    Calls Tryz.prog 40 #[.agg (r.cells v)] w (JMay (mayR r) w) := by
  obtain ⟨k, id, name, size, runs⟩ := r
  obtain ⟨f1, f2, f3, f4⟩ := hf
  simp only at h hl f1 f2 f3 f4 hI hN hB hnm
  obtain ⟨p, c, rfl⟩ := h.shape
  unfold JRec.cells mayR
  simp only
  have hh := fun W => qhas k W
  obtain ⟨id0, id1⟩ := bd32 f2
  have hsb := bd64 f4
  have hsz : (bs name).size = name.length := bs_size name
  unfold maxLen at f3
  rw [hI, hN, hB] at hh ⊢
  have HH := Lib.hid hh
  clear hh f1 f2 hI hN hB
  rcases name_cases name with ⟨nm1, nm2, nm3, nm4⟩ | ⟨nm1, nm2, nm3⟩
  · rw [nm1] at hnm; cases hnm
  clear hnm
  have k0 : Kept [] w (w.alloc (.cells #[.int .i64 k, .int .u32 id, .string (bs name), .int .i64 size, .slice p runs.length c] 55)) := (Kept.refl _ _).alloc _
  have o0 := Own.new w #[.int .i64 k, .int .u32 id, .string (bs name), .int .i64 size, .slice p runs.length c] 55
  rcases (by omega : id = 0 ∨ (1 ≤ id ∧ id ≤ 4294967294) ∨ id = 4294967295) with i1 | ⟨i1, i2⟩ | i1
  · subst i1
    have hm : mayG true false true 0 name size runs = false := by
      unfold mayG
      simp []
    have HM := Lib.hid hm
    clear hm
    go_enter Tryz.func40, Tryz.ntmps40
    go_wp2_with fail
    refine (HH.out _).mono ?_; rintro e w' ⟨rfl, rfl⟩
    go_wp2_with fail
    go_ret
    exact jmay_is HM.out k0
  · have i3 : ¬ id = 0 := by omega
    have hm : mayG true false true id name size runs = false := by
      unfold mayG
      simp [i3, i2, nm1]
    have HM := Lib.hid hm
    clear hm
    go_enter Tryz.func40, Tryz.ntmps40
    go_wp2_with fail
    refine (HH.out _).mono ?_; rintro e w' ⟨rfl, rfl⟩
    go_wp2_with fail
    go_ret
    exact jmay_is HM.out k0
  · subst i1
    have hm : mayG true false true 4294967295 name size runs = false := by
      unfold mayG
      simp []
    have HM := Lib.hid hm
    clear hm
    go_enter Tryz.func40, Tryz.ntmps40
    go_wp2_with fail
    refine (HH.out _).mono ?_; rintro e w' ⟨rfl, rfl⟩
    go_wp2_with fail
    go_ret
    exact jmay_is HM.out k0
set_option maxRecDepth 100000 in
set_option maxHeartbeats 8000000 in
theorem qmay_ttfe (r : JRec) (v : Value) (lo hi : Nat) (w : World) (h : RunsIn w v r.runs lo hi) (hl : r.runs.length ≤ 1000000) (hf : r.fits) (hI : kId r.kind = true) (hN : kName r.kind = true) (hB : kBlob r.kind = false) (hnm : r.name.isEmpty = true) :
    Calls Tryz.prog 40 #[.agg (r.cells v)] w (JMay (mayR r) w) := by
  obtain ⟨k, id, name, size, runs⟩ := r
  obtain ⟨f1, f2, f3, f4⟩ := hf
  simp only at h hl f1 f2 f3 f4 hI hN hB hnm
  obtain ⟨p, c, rfl⟩ := h.shape
  unfold JRec.cells mayR
  simp only
  have hh := fun W => qhas k W
  obtain ⟨id0, id1⟩ := bd32 f2
  have hsb := bd64 f4
  have hsz : (bs name).size = name.length := bs_size name
  unfold maxLen at f3
  rw [hI, hN, hB] at hh ⊢
  have HH := Lib.hid hh
  clear hh f1 f2 hI hN hB
  rcases name_cases name with ⟨nm1, nm2, nm3, nm4⟩ | ⟨nm1, nm2, nm3⟩
  rotate_left
  · rw [nm1] at hnm; cases hnm
  clear hnm
  subst nm1
  have k0 : Kept [] w (w.alloc (.cells #[.int .i64 k, .int .u32 id, .string (bs []), .int .i64 size, .slice p runs.length c] 55)) := (Kept.refl _ _).alloc _
  have o0 := Own.new w #[.int .i64 k, .int .u32 id, .string (bs []), .int .i64 size, .slice p runs.length c] 55
  rcases (by omega : id = 0 ∨ (1 ≤ id ∧ id ≤ 4294967294) ∨ id = 4294967295) with i1 | ⟨i1, i2⟩ | i1
  · subst i1
    have hm : mayG true true false 0 [] size runs = false := by
      unfold mayG
      simp []
    have HM := Lib.hid hm
    clear hm
    go_enter Tryz.func40, Tryz.ntmps40
    go_wp2_with fail
    refine (HH.out _).mono ?_; rintro e w' ⟨rfl, rfl⟩
    go_wp2_with fail
    go_ret
    exact jmay_is HM.out k0
  · have i3 : ¬ id = 0 := by omega
    have hm : mayG true true false id [] size runs = false := by
      unfold mayG
      simp [i3, i2]
    have HM := Lib.hid hm
    clear hm
    go_enter Tryz.func40, Tryz.ntmps40
    go_wp2_with fail
    refine (HH.out _).mono ?_; rintro e w' ⟨rfl, rfl⟩
    go_wp2_with fail
    go_ret
    exact jmay_is HM.out k0
  · subst i1
    have hm : mayG true true false 4294967295 [] size runs = false := by
      unfold mayG
      simp []
    have HM := Lib.hid hm
    clear hm
    go_enter Tryz.func40, Tryz.ntmps40
    go_wp2_with fail
    refine (HH.out _).mono ?_; rintro e w' ⟨rfl, rfl⟩
    go_wp2_with fail
    go_ret
    exact jmay_is HM.out k0
set_option maxRecDepth 100000 in
set_option maxHeartbeats 8000000 in
theorem qmay_ttfn (r : JRec) (v : Value) (lo hi : Nat) (w : World) (h : RunsIn w v r.runs lo hi) (hl : r.runs.length ≤ 1000000) (hf : r.fits) (hI : kId r.kind = true) (hN : kName r.kind = true) (hB : kBlob r.kind = false) (hnm : r.name.isEmpty = false) :
    Calls Tryz.prog 40 #[.agg (r.cells v)] w (JMay (mayR r) w) := by
  obtain ⟨k, id, name, size, runs⟩ := r
  obtain ⟨f1, f2, f3, f4⟩ := hf
  simp only at h hl f1 f2 f3 f4 hI hN hB hnm
  obtain ⟨p, c, rfl⟩ := h.shape
  unfold JRec.cells mayR
  simp only
  have hh := fun W => qhas k W
  obtain ⟨id0, id1⟩ := bd32 f2
  have hsb := bd64 f4
  have hsz : (bs name).size = name.length := bs_size name
  unfold maxLen at f3
  rw [hI, hN, hB] at hh ⊢
  have HH := Lib.hid hh
  clear hh f1 f2 hI hN hB
  rcases name_cases name with ⟨nm1, nm2, nm3, nm4⟩ | ⟨nm1, nm2, nm3⟩
  · rw [nm1] at hnm; cases hnm
  clear hnm
  have k0 : Kept [] w (w.alloc (.cells #[.int .i64 k, .int .u32 id, .string (bs name), .int .i64 size, .slice p runs.length c] 55)) := (Kept.refl _ _).alloc _
  have o0 := Own.new w #[.int .i64 k, .int .u32 id, .string (bs name), .int .i64 size, .slice p runs.length c] 55
  rcases (by omega : id = 0 ∨ (1 ≤ id ∧ id ≤ 4294967294) ∨ id = 4294967295) with i1 | ⟨i1, i2⟩ | i1
  · subst i1
    have hm : mayG true true false 0 name size runs = false := by
      unfold mayG
      simp []
    have HM := Lib.hid hm
    clear hm
    go_enter Tryz.func40, Tryz.ntmps40
    go_wp2_with fail
    refine (HH.out _).mono ?_; rintro e w' ⟨rfl, rfl⟩
    go_wp2_with fail
    go_ret
    exact jmay_is HM.out k0
  · have i3 : ¬ id = 0 := by omega
    rcases (by omega : name.length ≤ 48 ∨ 48 < name.length) with l1 | l1
    · have l3 : (name.length : Int) ≤ 48 := by omega
      rcases (by omega : size = 0 ∨ size ≠ 0) with z1 | z1
      · subst z1
        rcases List.eq_nil_or_concat runs with e1 | ⟨ri, rq, e1⟩
        · subst e1
          have hm : mayG true true false id name 0 [] = true := by
            unfold mayG
            simp [plB_zero, i3, i2, nm1, l1]
          have HM := Lib.hid hm
          clear hm
          go_enter Tryz.func40, Tryz.ntmps40
          go_wp2_with fail
          refine (HH.out _).mono ?_; rintro e w' ⟨rfl, rfl⟩
          go_wp2_with fail
          go_ret
          exact jmay_is HM.out k0
        · have e2 : 1 ≤ runs.length := by rw [e1]; simp
          have e3 : (0 : Int) < runs.length := by omega
          have e4 : runs.isEmpty = false := by rw [e1]; simp
          have e5 : ((runs.length : Int) == 0) = false := by rw [beq_eq_false_iff_ne]; omega
          clear e1
          have hm : mayG true true false id name 0 runs = false := by
            unfold mayG
            simp [i3, i2, nm1, l1, e4]
          have HM := Lib.hid hm
          clear hm
          go_enter Tryz.func40, Tryz.ntmps40
          go_wp2_with fail
          refine (HH.out _).mono ?_; rintro e w' ⟨rfl, rfl⟩
          go_wp2_with fail
          go_ret
          exact jmay_is HM.out k0
      · have z2 : (size == 0) = false := by simpa using z1
        have z3 : (size != 0) = true := by simpa using z1
        have hm : mayG true true false id name size runs = false := by
          unfold mayG
          simp [i3, i2, nm1, l1, z1]
        have HM := Lib.hid hm
        clear hm
        go_enter Tryz.func40, Tryz.ntmps40
        go_wp2_with fail
        refine (HH.out _).mono ?_; rintro e w' ⟨rfl, rfl⟩
        go_wp2_with fail
        go_ret
        exact jmay_is HM.out k0
    · have l2 : ¬ name.length ≤ 48 := by omega
      have l3 : (48 : Int) < name.length := by omega
      have hm : mayG true true false id name size runs = false := by
        unfold mayG
        simp [i3, i2, nm1, l2]
      have HM := Lib.hid hm
      clear hm
      go_enter Tryz.func40, Tryz.ntmps40
      go_wp2_with fail
      refine (HH.out _).mono ?_; rintro e w' ⟨rfl, rfl⟩
      go_wp2_with fail
      go_ret
      exact jmay_is HM.out k0
  · subst i1
    have hm : mayG true true false 4294967295 name size runs = false := by
      unfold mayG
      simp []
    have HM := Lib.hid hm
    clear hm
    go_enter Tryz.func40, Tryz.ntmps40
    go_wp2_with fail
    refine (HH.out _).mono ?_; rintro e w' ⟨rfl, rfl⟩
    go_wp2_with fail
    go_ret
    exact jmay_is HM.out k0
set_option maxRecDepth 100000 in
set_option maxHeartbeats 8000000 in
theorem qmay_ttte (r : JRec) (v : Value) (lo hi : Nat) (w : World) (h : RunsIn w v r.runs lo hi) (hl : r.runs.length ≤ 1000000) (hf : r.fits) (hI : kId r.kind = true) (hN : kName r.kind = true) (hB : kBlob r.kind = true) (hnm : r.name.isEmpty = true) :
    Calls Tryz.prog 40 #[.agg (r.cells v)] w (JMay (mayR r) w) := by
  obtain ⟨k, id, name, size, runs⟩ := r
  obtain ⟨f1, f2, f3, f4⟩ := hf
  simp only at h hl f1 f2 f3 f4 hI hN hB hnm
  obtain ⟨p, c, rfl⟩ := h.shape
  unfold JRec.cells mayR
  simp only
  have hh := fun W => qhas k W
  obtain ⟨id0, id1⟩ := bd32 f2
  have hsb := bd64 f4
  have hsz : (bs name).size = name.length := bs_size name
  unfold maxLen at f3
  rw [hI, hN, hB] at hh ⊢
  have HH := Lib.hid hh
  clear hh f1 f2 hI hN hB
  rcases name_cases name with ⟨nm1, nm2, nm3, nm4⟩ | ⟨nm1, nm2, nm3⟩
  rotate_left
  · rw [nm1] at hnm; cases hnm
  clear hnm
  subst nm1
  have k0 : Kept [] w (w.alloc (.cells #[.int .i64 k, .int .u32 id, .string (bs []), .int .i64 size, .slice p runs.length c] 55)) := (Kept.refl _ _).alloc _
  have o0 := Own.new w #[.int .i64 k, .int .u32 id, .string (bs []), .int .i64 size, .slice p runs.length c] 55
  rcases (by omega : id = 0 ∨ (1 ≤ id ∧ id ≤ 4294967294) ∨ id = 4294967295) with i1 | ⟨i1, i2⟩ | i1
  · subst i1
    have hm : mayG true true true 0 [] size runs = false := by
      unfold mayG
      simp []
    have HM := Lib.hid hm
    clear hm
    go_enter Tryz.func40, Tryz.ntmps40
    go_wp2_with fail
    refine (HH.out _).mono ?_; rintro e w' ⟨rfl, rfl⟩
    go_wp2_with fail
    go_ret
    exact jmay_is HM.out k0
  · have i3 : ¬ id = 0 := by omega
    have hm : mayG true true true id [] size runs = false := by
      unfold mayG
      simp [i3, i2]
    have HM := Lib.hid hm
    clear hm
    go_enter Tryz.func40, Tryz.ntmps40
    go_wp2_with fail
    refine (HH.out _).mono ?_; rintro e w' ⟨rfl, rfl⟩
    go_wp2_with fail
    go_ret
    exact jmay_is HM.out k0
  · subst i1
    have hm : mayG true true true 4294967295 [] size runs = false := by
      unfold mayG
      simp []
    have HM := Lib.hid hm
    clear hm
    go_enter Tryz.func40, Tryz.ntmps40
    go_wp2_with fail
    refine (HH.out _).mono ?_; rintro e w' ⟨rfl, rfl⟩
    go_wp2_with fail
    go_ret
    exact jmay_is HM.out k0
set_option maxRecDepth 100000 in
set_option maxHeartbeats 8000000 in
theorem qmay_tttn (r : JRec) (v : Value) (lo hi : Nat) (w : World) (h : RunsIn w v r.runs lo hi) (hl : r.runs.length ≤ 1000000) (hf : r.fits) (hI : kId r.kind = true) (hN : kName r.kind = true) (hB : kBlob r.kind = true) (hnm : r.name.isEmpty = false) :
    Calls Tryz.prog 40 #[.agg (r.cells v)] w (JMay (mayR r) w) := by
  obtain ⟨k, id, name, size, runs⟩ := r
  obtain ⟨f1, f2, f3, f4⟩ := hf
  simp only at h hl f1 f2 f3 f4 hI hN hB hnm
  obtain ⟨p, c, rfl⟩ := h.shape
  unfold JRec.cells mayR
  simp only
  have hh := fun W => qhas k W
  obtain ⟨id0, id1⟩ := bd32 f2
  have hsb := bd64 f4
  have hsz : (bs name).size = name.length := bs_size name
  unfold maxLen at f3
  rw [hI, hN, hB] at hh ⊢
  have HH := Lib.hid hh
  clear hh f1 f2 hI hN hB
  rcases name_cases name with ⟨nm1, nm2, nm3, nm4⟩ | ⟨nm1, nm2, nm3⟩
  · rw [nm1] at hnm; cases hnm
  clear hnm
  have k0 : Kept [] w (w.alloc (.cells #[.int .i64 k, .int .u32 id, .string (bs name), .int .i64 size, .slice p runs.length c] 55)) := (Kept.refl _ _).alloc _
  have o0 := Own.new w #[.int .i64 k, .int .u32 id, .string (bs name), .int .i64 size, .slice p runs.length c] 55
  rcases (by omega : id = 0 ∨ (1 ≤ id ∧ id ≤ 4294967294) ∨ id = 4294967295) with i1 | ⟨i1, i2⟩ | i1
  · subst i1
    have hm : mayG true true true 0 name size runs = false := by
      unfold mayG
      simp []
    have HM := Lib.hid hm
    clear hm
    go_enter Tryz.func40, Tryz.ntmps40
    go_wp2_with fail
    refine (HH.out _).mono ?_; rintro e w' ⟨rfl, rfl⟩
    go_wp2_with fail
    go_ret
    exact jmay_is HM.out k0
  · have i3 : ¬ id = 0 := by omega
    rcases (by omega : name.length ≤ 48 ∨ 48 < name.length) with l1 | l1
    · have l3 : (name.length : Int) ≤ 48 := by omega
      rcases (by omega : size < 0 ∨ (0 ≤ size ∧ 1048576 < size) ∨ (0 ≤ size ∧ size ≤ 1048576 ∧ 16 < runs.length) ∨ (0 ≤ size ∧ size ≤ 1048576 ∧ runs.length ≤ 16)) with b1 | ⟨b1, b2⟩ | ⟨b1, b2, b3⟩ | ⟨b1, b2, b3⟩
      · have b4 : ¬ 0 ≤ size := by omega
        have hp : plB runs size = false := by unfold plB; simp [b4]
        have hm : mayG true true true id name size runs = false := by
          unfold mayG
          simp [hp]
        have HM := Lib.hid hm
        clear hm
        clear hp
        go_enter Tryz.func40, Tryz.ntmps40
        go_wp2_with fail
        refine (HH.out _).mono ?_; rintro e w' ⟨rfl, rfl⟩
        go_wp2_with fail
        go_ret
        exact jmay_is HM.out k0
      · have b4 : ¬ size ≤ 1048576 := by omega
        have hp : plB runs size = false := by unfold plB; simp [b4]
        have hm : mayG true true true id name size runs = false := by
          unfold mayG
          simp [hp]
        have HM := Lib.hid hm
        clear hm
        clear hp
        go_enter Tryz.func40, Tryz.ntmps40
        go_wp2_with fail
        refine (HH.out _).mono ?_; rintro e w' ⟨rfl, rfl⟩
        go_wp2_with fail
        go_ret
        exact jmay_is HM.out k0
      · have b4 : ¬ runs.length ≤ 16 := by omega
        have b5 : (16 : Int) < runs.length := by omega
        have hp : plB runs size = false := by unfold plB; simp [b4]
        have hm : mayG true true true id name size runs = false := by
          unfold mayG
          simp [hp]
        have HM := Lib.hid hm
        clear hm
        clear hp
        go_enter Tryz.func40, Tryz.ntmps40
        go_wp2_with fail
        refine (HH.out _).mono ?_; rintro e w' ⟨rfl, rfl⟩
        go_wp2_with fail
        go_ret
        exact jmay_is HM.out k0
      · have b5 : (runs.length : Int) ≤ 16 := by omega
        have hr := fun W (kk : Kept [] w W) => rruns _ runs lo hi 0 8192 W (h.kept0 kk) hl (by omega) (by omega) (by omega) (by omega)
        unfold RunsSays at hr
        cases hL : lies 0 8192 runs
        · have hp : plB runs size = false := by unfold plB; simp [hL]
          have hm : mayG true true true id name size runs = false := by
            unfold mayG
            simp [hp]
          have HM := Lib.hid hm
          clear hm
          rw [hL, Bool.false_and] at hr
          have HR := Lib.hid hr
          clear hp hr hL
          go_enter Tryz.func40, Tryz.ntmps40
          go_wp2_with fail
          refine (HH.out _).mono ?_; rintro e w' ⟨rfl, rfl⟩
          go_wp2_with fail
          have kk := k0.drew
          have ob := o0.drew
          obtain ⟨c0, c1, c2, c3, c4⟩ := ob.c5
          refine wp_region_held_drew (S := (fun W => W.cell? ⟨w.heap.size, 3, none⟩ = some (.int .i64 size) ∧ W.cell? ⟨w.heap.size, 4, none⟩ = some (.slice p runs.length c))) (by kernel_rfl) (by go_keep) (fun hHeld => ?_)
          refine take_at (i := 0) (d := some 68) (v := ?_) rfl rfl (by kernel_rfl) (by kernel_rfl) (by kernel_rfl) (fun _ _ _ h => h) (Or.inl ⟨by rfl, ?_⟩) (by assumption) ?_
          rotate_left
          · (intro w hSw; (try dsimp only at hSw); go_simp; try with_reducible rfl)
          try simp only [Act.put, List.setIfInBounds_toArray, List.set_cons_zero, List.set_cons_succ]
          refine take_at (i := 1) (d := some 69) (v := ?_) rfl rfl (by kernel_rfl) (by kernel_rfl) (by kernel_rfl) (fun _ _ _ h => h) (Or.inl ⟨by rfl, ?_⟩) (by assumption) ?_
          rotate_left
          · (intro w hSw; (try dsimp only at hSw); go_simp; try with_reducible rfl)
          try simp only [Act.put, List.setIfInBounds_toArray, List.set_cons_zero, List.set_cons_succ]
          refine wpAnyH_ready (rs := [2]) (by kernel_rfl) (by simp) ?_
          refine AllReadyH.cons rfl (fun K hK => ?_) AllReadyH.nil
          go_simp
          ((with_reducible refine (HR.out _ kk).mono ?_)); rintro e w1 ⟨rfl, k1⟩
          have kk := kk.trans k1
          have ob := k1.own ob (by simp)
          obtain ⟨d0, d1, d2, d3, d4⟩ := ob.c5
          go_wp2_with fail
          refine hK.out _ _ ?_ (fun hHeld2 => ?_)
          · exact ⟨d3, d4⟩
          clear hK K hHeld
          try simp only [Act.put, List.setIfInBounds_toArray, List.set_cons_zero, List.set_cons_succ]
          refine take_at (i := 3) (d := some 71) (v := ?_) rfl rfl (by kernel_rfl) (by kernel_rfl) (by kernel_rfl) (fun _ _ _ h => h) (Or.inl ⟨by rfl, ?_⟩) (by assumption) ?_
          rotate_left
          · (intro w hSw; (try dsimp only at hSw); go_simp; try with_reducible rfl)
          try simp only [Act.put, List.setIfInBounds_toArray, List.set_cons_zero, List.set_cons_succ]
          refine take_at (i := 4) (d := some 72) (v := undef) rfl rfl (by kernel_rfl) (by kernel_rfl) (by kernel_rfl) (fun _ _ _ h => h) (Or.inr ⟨by rfl, rfl⟩) (by assumption) ?_
          try simp only [Act.put, List.setIfInBounds_toArray, List.set_cons_zero, List.set_cons_succ]
          refine take_at (i := 5) (d := some 73) (v := undef) rfl rfl (by kernel_rfl) (by kernel_rfl) (by kernel_rfl) (fun _ _ _ h => h) (Or.inr ⟨by rfl, rfl⟩) (by assumption) ?_
          try simp only [Act.put, List.setIfInBounds_toArray, List.set_cons_zero, List.set_cons_succ]
          refine take_at (i := 6) (d := some 74) (v := undef) rfl rfl (by kernel_rfl) (by kernel_rfl) (by kernel_rfl) (fun _ _ _ h => h) (Or.inr ⟨by rfl, rfl⟩) (by assumption) ?_
          try simp only [Act.put, List.setIfInBounds_toArray, List.set_cons_zero, List.set_cons_succ]
          refine take_at (i := 7) (d := some 75) (v := undef) rfl rfl (by kernel_rfl) (by kernel_rfl) (by kernel_rfl) (fun _ _ _ h => h) (Or.inr ⟨by rfl, rfl⟩) (by assumption) ?_
          try simp only [Act.put, List.setIfInBounds_toArray, List.set_cons_zero, List.set_cons_succ]
          refine take_at (i := 8) (d := some 76) (v := undef) rfl rfl (by kernel_rfl) (by kernel_rfl) (by kernel_rfl) (fun _ _ _ h => h) (Or.inr ⟨by rfl, rfl⟩) (by assumption) ?_
          try simp only [Act.put, List.setIfInBounds_toArray, List.set_cons_zero, List.set_cons_succ]
          refine take_at (i := 9) (d := some 77) (v := undef) rfl rfl (by kernel_rfl) (by kernel_rfl) (by kernel_rfl) (fun _ _ _ h => h) (Or.inr ⟨by rfl, rfl⟩) (by assumption) ?_
          try simp only [Act.put, List.setIfInBounds_toArray, List.set_cons_zero, List.set_cons_succ]
          refine take_at (i := 10) (d := some 78) (v := undef) rfl rfl (by kernel_rfl) (by kernel_rfl) (by kernel_rfl) (fun _ _ _ h => h) (Or.inr ⟨by rfl, rfl⟩) (by assumption) ?_
          try simp only [Act.put, List.setIfInBounds_toArray, List.set_cons_zero, List.set_cons_succ]
          refine take_at (i := 11) (d := some 79) (v := ?_) rfl rfl (by kernel_rfl) (by kernel_rfl) (by kernel_rfl) (fun _ _ _ h => h) (Or.inl ⟨by rfl, ?_⟩) (by assumption) ?_
          rotate_left
          · (intro w hSw; (try dsimp only at hSw); go_simp; try with_reducible rfl)
          try simp only [Act.put, List.setIfInBounds_toArray, List.set_cons_zero, List.set_cons_succ]
          refine take_at (i := 12) (d := some 2) (v := ?_) rfl rfl (by kernel_rfl) (by kernel_rfl) (by kernel_rfl) (fun _ _ _ h => h) (Or.inl ⟨by rfl, ?_⟩) (by assumption) ?_
          rotate_left
          · (intro w hSw; (try dsimp only at hSw); go_simp; try with_reducible rfl)
          try simp only [Act.put, List.setIfInBounds_toArray, List.set_cons_zero, List.set_cons_succ]
          refine wpAnyH_done (by kernel_rfl) ?_ _
          go_wp2_with fail
          go_ret
          exact jmay_is HM.out kk
        · have hp : plB runs size = (sumLen runs == need size) := by unfold plB; simp [hL, b1, b2, b3]
          have hm : mayG true true true id name size runs = (sumLen runs == need size) := by
            unfold mayG
            simp [hp, i3, i2, nm1, l1]
          have HM := Lib.hid hm
          clear hm
          rw [hL, Bool.true_and, decide_eq_true b3] at hr
          have hs := fun W (kk : Kept [] w W) => rsumlen _ runs lo hi 0 8192 W (h.kept0 kk) hl hL (by omega) (by omega)
          have hn := fun W => rneed size W f4
          have HR := Lib.hid hr
          have HS := Lib.hid hs
          have HN := Lib.hid hn
          clear hp hr hL hs hn h
          generalize sumLen runs = sm at *
          generalize need size = nd at *
          go_enter Tryz.func40, Tryz.ntmps40
          go_wp2_with fail
          refine (HH.out _).mono ?_; rintro e w' ⟨rfl, rfl⟩
          go_wp2_with fail
          have kk := k0.drew
          have ob := o0.drew
          go_region_held3 (fun W => W.cell? ⟨w.heap.size, 3, none⟩ = some (.int .i64 size) ∧ W.cell? ⟨w.heap.size, 4, none⟩ = some (.slice p runs.length c)) (go_keep)
            (first
              | (go_at_call 78; ((with_reducible refine (HR.out _ kk).mono ?_)); rintro e w' ⟨rfl, k'⟩; have kk := kk.trans k'; have ob := k'.own ob (by simp); obtain ⟨c0, c1, c2, c3, c4⟩ := ob.c5)
              | (go_at_call 79; ((with_reducible refine (HS.out _ kk).mono ?_)); rintro e w' ⟨rfl, rfl⟩)
              | (go_at_call 80; ((with_reducible refine (HN.out _).mono ?_)); rintro e w' ⟨rfl, rfl⟩))
          all_goals
            go_wp2_with fail
            go_ret
            exact jmay_is HM.out kk
    · have l2 : ¬ name.length ≤ 48 := by omega
      have l3 : (48 : Int) < name.length := by omega
      have hm : mayG true true true id name size runs = false := by
        unfold mayG
        simp [i3, i2, nm1, l2]
      have HM := Lib.hid hm
      clear hm
      go_enter Tryz.func40, Tryz.ntmps40
      go_wp2_with fail
      refine (HH.out _).mono ?_; rintro e w' ⟨rfl, rfl⟩
      go_wp2_with fail
      go_ret
      exact jmay_is HM.out k0
  · subst i1
    have hm : mayG true true true 4294967295 name size runs = false := by
      unfold mayG
      simp []
    have HM := Lib.hid hm
    clear hm
    go_enter Tryz.func40, Tryz.ntmps40
    go_wp2_with fail
    refine (HH.out _).mono ?_; rintro e w' ⟨rfl, rfl⟩
    go_wp2_with fail
    go_ret
    exact jmay_is HM.out k0
theorem qmay (r : JRec) (v : Value) (lo hi : Nat) (w : World) (h : RunsIn w v r.runs lo hi) (hl : r.runs.length ≤ 1000000) (hf : r.fits) :
    Calls Tryz.prog 40 #[.agg (r.cells v)] w (JMay (mayR r) w) := by
  cases hI : kId r.kind <;> cases hN : kName r.kind <;> cases hB : kBlob r.kind <;> cases hn : r.name.isEmpty
  · exact qmay_fffn r v lo hi w h hl hf hI hN hB hn
  · exact qmay_fffe r v lo hi w h hl hf hI hN hB hn
  · exact qmay_fftn r v lo hi w h hl hf hI hN hB hn
  · exact qmay_ffte r v lo hi w h hl hf hI hN hB hn
  · exact qmay_ftfn r v lo hi w h hl hf hI hN hB hn
  · exact qmay_ftfe r v lo hi w h hl hf hI hN hB hn
  · exact qmay_fttn r v lo hi w h hl hf hI hN hB hn
  · exact qmay_ftte r v lo hi w h hl hf hI hN hB hn
  · exact qmay_tffn r v lo hi w h hl hf hI hN hB hn
  · exact qmay_tffe r v lo hi w h hl hf hI hN hB hn
  · exact qmay_tftn r v lo hi w h hl hf hI hN hB hn
  · exact qmay_tfte r v lo hi w h hl hf hI hN hB hn
  · exact qmay_ttfn r v lo hi w h hl hf hI hN hB hn
  · exact qmay_ttfe r v lo hi w h hl hf hI hN hB hn
  · exact qmay_tttn r v lo hi w h hl hf hI hN hB hn
  · exact qmay_ttte r v lo hi w h hl hf hI hN hB hn
end Go.Proofs.YtakdnchmehmdhaaGreat
