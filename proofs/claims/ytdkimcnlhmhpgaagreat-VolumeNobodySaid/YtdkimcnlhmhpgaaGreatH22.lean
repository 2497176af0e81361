/- -/
import Derived.Test.YtdkimcnlhmhpgaaGreatH14
set_option linter.unusedVariables false
set_option linter.unusedSimpArgs false
namespace Go.Proofs.YtdkimcnlhmhpgaaGreat
open Go.RowKit
set_option maxRecDepth 100000 in
set_option maxHeartbeats 8000000 in
theorem jcheck_fffe (r : JRec) (v : Value) (lo hi : Nat) (w : World) (h : RunsIn w v r.runs lo hi) (hl : r.runs.length ≤ 1000000) (hf : r.fits) (hI : kId r.kind = false) (hN : kName r.kind = false) (hB : kBlob r.kind = false) (hnm : r.name.isEmpty = true) :
  Calls Tryz.prog 98 #[.agg (r.cells v)] w (JCheck (mayR r) w) := by
 obtain ⟨k, id, name, size, runs⟩ := r
 obtain ⟨f1, f2, f3, f4⟩ := hf
 simp only at h hl f1 f2 f3 f4 hI hN hB hnm
 obtain ⟨p, c, rfl⟩ := h.shape
 unfold JRec.cells mayR
 simp only
 have hh := fun W => jhas k W
 obtain ⟨id0, id1⟩ := bd32 f2
 have hsb := bd64 f4
 have hsz : (bs name).size = name.length := bs_size name
 unfold maxLen at f3
 have k0 : Kept [] w (w.alloc (.cells #[.int .i64 k, .int .u32 id, .string (bs name), .int .i64 size, .slice p runs.length c] 102)) := (Kept.refl _ _).alloc _
 have hpl := fun W (kk : Kept [] w W) => jplaced _ runs size lo hi W (h.kept0 kk) hl f4
 unfold PlSays at hpl
 have HH := Lib.hid hh
 have HP := Lib.hid hpl
 clear hh hpl h f1 f2 f4
 rw [hI, hN, hB] at HH ⊢
 clear hI hN hB
 generalize hpb : plB runs size = P at *
 have HPB := Lib.hid hpb
 clear hpb
 rcases name_cases name with ⟨nm1, nm2, nm3, nm4⟩ | ⟨nm1, nm2, nm3⟩
 rotate_left
 ·rw [nm1] at hnm; cases hnm
 clear hnm
 subst nm1
 have hm : mayG false false false id [] size runs = false := by
  unfold mayG
  try simp []
 have HM := Lib.hid hm
 clear hm
 go_enter Tryz.func98, Tryz.ntmps98
 go_wp2_with fail
 refine (HH.out _).mono ?_; rintro e w' ⟨rfl, rfl⟩
 go_wp2_with fail
 go_ret
 exact jcheck_no HM.out k0
set_option maxRecDepth 100000 in
set_option maxHeartbeats 8000000 in
theorem jcheck_fffn (r : JRec) (v : Value) (lo hi : Nat) (w : World) (h : RunsIn w v r.runs lo hi) (hl : r.runs.length ≤ 1000000) (hf : r.fits) (hI : kId r.kind = false) (hN : kName r.kind = false) (hB : kBlob r.kind = false) (hnm : r.name.isEmpty = false) :
  Calls Tryz.prog 98 #[.agg (r.cells v)] w (JCheck (mayR r) w) := by
 obtain ⟨k, id, name, size, runs⟩ := r
 obtain ⟨f1, f2, f3, f4⟩ := hf
 simp only at h hl f1 f2 f3 f4 hI hN hB hnm
 obtain ⟨p, c, rfl⟩ := h.shape
 unfold JRec.cells mayR
 simp only
 have hh := fun W => jhas k W
 obtain ⟨id0, id1⟩ := bd32 f2
 have hsb := bd64 f4
 have hsz : (bs name).size = name.length := bs_size name
 unfold maxLen at f3
 have k0 : Kept [] w (w.alloc (.cells #[.int .i64 k, .int .u32 id, .string (bs name), .int .i64 size, .slice p runs.length c] 102)) := (Kept.refl _ _).alloc _
 have hpl := fun W (kk : Kept [] w W) => jplaced _ runs size lo hi W (h.kept0 kk) hl f4
 unfold PlSays at hpl
 have HH := Lib.hid hh
 have HP := Lib.hid hpl
 clear hh hpl h f1 f2 f4
 rw [hI, hN, hB] at HH ⊢
 clear hI hN hB
 generalize hpb : plB runs size = P at *
 have HPB := Lib.hid hpb
 clear hpb
 rcases name_cases name with ⟨nm1, nm2, nm3, nm4⟩ | ⟨nm1, nm2, nm3⟩
 ·rw [nm1] at hnm; cases hnm
 clear hnm
 have hm : mayG false false false id name size runs = false := by
  unfold mayG
  try simp []
 have HM := Lib.hid hm
 clear hm
 go_enter Tryz.func98, Tryz.ntmps98
 go_wp2_with fail
 refine (HH.out _).mono ?_; rintro e w' ⟨rfl, rfl⟩
 go_wp2_with fail
 go_ret
 exact jcheck_no HM.out k0
set_option maxRecDepth 100000 in
set_option maxHeartbeats 8000000 in
theorem jcheck_ffte (r : JRec) (v : Value) (lo hi : Nat) (w : World) (h : RunsIn w v r.runs lo hi) (hl : r.runs.length ≤ 1000000) (hf : r.fits) (hI : kId r.kind = false) (hN : kName r.kind = false) (hB : kBlob r.kind = true) (hnm : r.name.isEmpty = true) :
  Calls Tryz.prog 98 #[.agg (r.cells v)] w (JCheck (mayR r) w) := by
 obtain ⟨k, id, name, size, runs⟩ := r
 obtain ⟨f1, f2, f3, f4⟩ := hf
 simp only at h hl f1 f2 f3 f4 hI hN hB hnm
 obtain ⟨p, c, rfl⟩ := h.shape
 unfold JRec.cells mayR
 simp only
 have hh := fun W => jhas k W
 obtain ⟨id0, id1⟩ := bd32 f2
 have hsb := bd64 f4
 have hsz : (bs name).size = name.length := bs_size name
 unfold maxLen at f3
 have k0 : Kept [] w (w.alloc (.cells #[.int .i64 k, .int .u32 id, .string (bs name), .int .i64 size, .slice p runs.length c] 102)) := (Kept.refl _ _).alloc _
 have hpl := fun W (kk : Kept [] w W) => jplaced _ runs size lo hi W (h.kept0 kk) hl f4
 unfold PlSays at hpl
 have HH := Lib.hid hh
 have HP := Lib.hid hpl
 clear hh hpl h f1 f2 f4
 rw [hI, hN, hB] at HH ⊢
 clear hI hN hB
 generalize hpb : plB runs size = P at *
 have HPB := Lib.hid hpb
 clear hpb
 rcases name_cases name with ⟨nm1, nm2, nm3, nm4⟩ | ⟨nm1, nm2, nm3⟩
 rotate_left
 ·rw [nm1] at hnm; cases hnm
 clear hnm
 subst nm1
 have hm : mayG false false true id [] size runs = false := by
  unfold mayG
  try simp []
 have HM := Lib.hid hm
 clear hm
 go_enter Tryz.func98, Tryz.ntmps98
 go_wp2_with fail
 refine (HH.out _).mono ?_; rintro e w' ⟨rfl, rfl⟩
 go_wp2_with fail
 go_ret
 exact jcheck_no HM.out k0
set_option maxRecDepth 100000 in
set_option maxHeartbeats 8000000 in
theorem jcheck_fftn (r : JRec) (v : Value) (lo hi : Nat) (w : World) (h : RunsIn w v r.runs lo hi) (hl : r.runs.length ≤ 1000000) (hf : r.fits) (hI : kId r.kind = false) (hN : kName r.kind = false) (hB : kBlob r.kind = true) (hnm : r.name.isEmpty = false) :
  Calls Tryz.prog 98 #[.agg (r.cells v)] w (JCheck (mayR r) w) := by
 obtain ⟨k, id, name, size, runs⟩ := r
 obtain ⟨f1, f2, f3, f4⟩ := hf
 simp only at h hl f1 f2 f3 f4 hI hN hB hnm
 obtain ⟨p, c, rfl⟩ := h.shape
 unfold JRec.cells mayR
 simp only
 have hh := fun W => jhas k W
 obtain ⟨id0, id1⟩ := bd32 f2
 have hsb := bd64 f4
 have hsz : (bs name).size = name.length := bs_size name
 unfold maxLen at f3
 have k0 : Kept [] w (w.alloc (.cells #[.int .i64 k, .int .u32 id, .string (bs name), .int .i64 size, .slice p runs.length c] 102)) := (Kept.refl _ _).alloc _
 have hpl := fun W (kk : Kept [] w W) => jplaced _ runs size lo hi W (h.kept0 kk) hl f4
 unfold PlSays at hpl
 have HH := Lib.hid hh
 have HP := Lib.hid hpl
 clear hh hpl h f1 f2 f4
 rw [hI, hN, hB] at HH ⊢
 clear hI hN hB
 generalize hpb : plB runs size = P at *
 have HPB := Lib.hid hpb
 clear hpb
 rcases name_cases name with ⟨nm1, nm2, nm3, nm4⟩ | ⟨nm1, nm2, nm3⟩
 ·rw [nm1] at hnm; cases hnm
 clear hnm
 have hm : mayG false false true id name size runs = false := by
  unfold mayG
  try simp []
 have HM := Lib.hid hm
 clear hm
 go_enter Tryz.func98, Tryz.ntmps98
 go_wp2_with fail
 refine (HH.out _).mono ?_; rintro e w' ⟨rfl, rfl⟩
 go_wp2_with fail
 go_ret
 exact jcheck_no HM.out k0
set_option maxRecDepth 100000 in
set_option maxHeartbeats 8000000 in
theorem jcheck_ftfe (r : JRec) (v : Value) (lo hi : Nat) (w : World) (h : RunsIn w v r.runs lo hi) (hl : r.runs.length ≤ 1000000) (hf : r.fits) (hI : kId r.kind = false) (hN : kName r.kind = true) (hB : kBlob r.kind = false) (hnm : r.name.isEmpty = true) :
  Calls Tryz.prog 98 #[.agg (r.cells v)] w (JCheck (mayR r) w) := by
 obtain ⟨k, id, name, size, runs⟩ := r
 obtain ⟨f1, f2, f3, f4⟩ := hf
 simp only at h hl f1 f2 f3 f4 hI hN hB hnm
 obtain ⟨p, c, rfl⟩ := h.shape
 unfold JRec.cells mayR
 simp only
 have hh := fun W => jhas k W
 obtain ⟨id0, id1⟩ := bd32 f2
 have hsb := bd64 f4
 have hsz : (bs name).size = name.length := bs_size name
 unfold maxLen at f3
 have k0 : Kept [] w (w.alloc (.cells #[.int .i64 k, .int .u32 id, .string (bs name), .int .i64 size, .slice p runs.length c] 102)) := (Kept.refl _ _).alloc _
 have hpl := fun W (kk : Kept [] w W) => jplaced _ runs size lo hi W (h.kept0 kk) hl f4
 unfold PlSays at hpl
 have HH := Lib.hid hh
 have HP := Lib.hid hpl
 clear hh hpl h f1 f2 f4
 rw [hI, hN, hB] at HH ⊢
 clear hI hN hB
 generalize hpb : plB runs size = P at *
 have HPB := Lib.hid hpb
 clear hpb
 rcases name_cases name with ⟨nm1, nm2, nm3, nm4⟩ | ⟨nm1, nm2, nm3⟩
 rotate_left
 ·rw [nm1] at hnm; cases hnm
 clear hnm
 subst nm1
 rcases (by omega : id = 0 ∨ (1 ≤ id ∧ id ≤ 4294967294) ∨ id = 4294967295) with i1 | ⟨i1, i2⟩ | i1
 ·subst i1
  have hm : mayG false true false 0 [] size runs = false := by
   unfold mayG
   try simp []
  have HM := Lib.hid hm
  clear hm
  go_enter Tryz.func98, Tryz.ntmps98
  go_wp2_with fail
  refine (HH.out _).mono ?_; rintro e w' ⟨rfl, rfl⟩
  go_wp2_with fail
  go_ret
  exact jcheck_no HM.out k0
 ·have i3 : ¬ id = 0 := by omega
  have i4 : (id == 0) = false := by simpa using i3
  have i5 : (id != 0) = true := by simpa using i3
  have hm : mayG false true false id [] size runs = false := by
   unfold mayG
   try simp [i3, i2]
  have HM := Lib.hid hm
  clear hm
  go_enter Tryz.func98, Tryz.ntmps98
  go_wp2_with fail
  refine (HH.out _).mono ?_; rintro e w' ⟨rfl, rfl⟩
  go_wp2_with fail
  go_ret
  exact jcheck_no HM.out k0
 ·subst i1
  have hm : mayG false true false 4294967295 [] size runs = false := by
   unfold mayG
   try simp []
  have HM := Lib.hid hm
  clear hm
  go_enter Tryz.func98, Tryz.ntmps98
  go_wp2_with fail
  refine (HH.out _).mono ?_; rintro e w' ⟨rfl, rfl⟩
  go_wp2_with fail
  go_ret
  exact jcheck_no HM.out k0
set_option maxRecDepth 100000 in
set_option maxHeartbeats 8000000 in
theorem jcheck_ftfn (r : JRec) (v : Value) (lo hi : Nat) (w : World) (h : RunsIn w v r.runs lo hi) (hl : r.runs.length ≤ 1000000) (hf : r.fits) (hI : kId r.kind = false) (hN : kName r.kind = true) (hB : kBlob r.kind = false) (hnm : r.name.isEmpty = false) :
  Calls Tryz.prog 98 #[.agg (r.cells v)] w (JCheck (mayR r) w) := by
 obtain ⟨k, id, name, size, runs⟩ := r
 obtain ⟨f1, f2, f3, f4⟩ := hf
 simp only at h hl f1 f2 f3 f4 hI hN hB hnm
 obtain ⟨p, c, rfl⟩ := h.shape
 unfold JRec.cells mayR
 simp only
 have hh := fun W => jhas k W
 obtain ⟨id0, id1⟩ := bd32 f2
 have hsb := bd64 f4
 have hsz : (bs name).size = name.length := bs_size name
 unfold maxLen at f3
 have k0 : Kept [] w (w.alloc (.cells #[.int .i64 k, .int .u32 id, .string (bs name), .int .i64 size, .slice p runs.length c] 102)) := (Kept.refl _ _).alloc _
 have hpl := fun W (kk : Kept [] w W) => jplaced _ runs size lo hi W (h.kept0 kk) hl f4
 unfold PlSays at hpl
 have HH := Lib.hid hh
 have HP := Lib.hid hpl
 clear hh hpl h f1 f2 f4
 rw [hI, hN, hB] at HH ⊢
 clear hI hN hB
 generalize hpb : plB runs size = P at *
 have HPB := Lib.hid hpb
 clear hpb
 rcases name_cases name with ⟨nm1, nm2, nm3, nm4⟩ | ⟨nm1, nm2, nm3⟩
 ·rw [nm1] at hnm; cases hnm
 clear hnm
 rcases (by omega : id = 0 ∨ (1 ≤ id ∧ id ≤ 4294967294) ∨ id = 4294967295) with i1 | ⟨i1, i2⟩ | i1
 ·subst i1
  rcases (by omega : name.length ≤ 48 ∨ 48 < name.length) with l1 | l1
  ·rcases (by omega : size = 0 ∨ size ≠ 0) with z1 | z1
   ·subst z1
    rcases List.eq_nil_or_concat runs with e1 | ⟨ri, rq, e1⟩
    ·subst e1
     have hP : P = true := by rw [← HPB.out]; exact plB_zero
     subst hP
     have hm : mayG false true false 0 name 0 [] = true := by
      unfold mayG
      rw [HPB.out]
      try simp [nm1, l1]
     have HM := Lib.hid hm
     clear hm
     go_enter Tryz.func98, Tryz.ntmps98
     go_wp2_with fail
     refine (HH.out _).mono ?_; rintro e w' ⟨rfl, rfl⟩
     go_wp2_with fail
     refine (HP.out _ k0).mono ?_; rintro e w1 ⟨rfl, k1⟩
     go_wp2_with fail
     go_ret
     exact jcheck_yes HM.out (k0.trans k1)
    ·have e2 : 1 ≤ runs.length := by rw [e1]; simp
     have e3 : (0 : Int) < runs.length := by omega
     have e4 : runs.isEmpty = false := by rw [e1]; simp
     clear e1
     have hm : mayG false true false 0 name 0 runs = false := by
      unfold mayG
      try simp [nm1, l1, e4]
     have HM := Lib.hid hm
     clear hm
     go_enter Tryz.func98, Tryz.ntmps98
     go_wp2_with fail
     refine (HH.out _).mono ?_; rintro e w' ⟨rfl, rfl⟩
     go_wp2_with fail
     go_ret
     exact jcheck_no HM.out k0
   ·have z2 : (size == 0) = false := by simpa using z1
    have z3 : (size != 0) = true := by simpa using z1
    have hm : mayG false true false 0 name size runs = false := by
     unfold mayG
     try simp [nm1, l1, z1]
    have HM := Lib.hid hm
    clear hm
    go_enter Tryz.func98, Tryz.ntmps98
    go_wp2_with fail
    refine (HH.out _).mono ?_; rintro e w' ⟨rfl, rfl⟩
    go_wp2_with fail
    go_ret
    exact jcheck_no HM.out k0
  ·have l2 : ¬ name.length ≤ 48 := by omega
   have l3 : (48 : Int) < name.length := by omega
   have hm : mayG false true false 0 name size runs = false := by
    unfold mayG
    try simp [nm1, l2]
   have HM := Lib.hid hm
   clear hm
   go_enter Tryz.func98, Tryz.ntmps98
   go_wp2_with fail
   refine (HH.out _).mono ?_; rintro e w' ⟨rfl, rfl⟩
   go_wp2_with fail
   go_ret
   exact jcheck_no HM.out k0
 ·have i3 : ¬ id = 0 := by omega
  have i4 : (id == 0) = false := by simpa using i3
  have i5 : (id != 0) = true := by simpa using i3
  have hm : mayG false true false id name size runs = false := by
   unfold mayG
   try simp [i3, i2]
  have HM := Lib.hid hm
  clear hm
  go_enter Tryz.func98, Tryz.ntmps98
  go_wp2_with fail
  refine (HH.out _).mono ?_; rintro e w' ⟨rfl, rfl⟩
  go_wp2_with fail
  go_ret
  exact jcheck_no HM.out k0
 ·subst i1
  have hm : mayG false true false 4294967295 name size runs = false := by
   unfold mayG
   try simp []
  have HM := Lib.hid hm
  clear hm
  go_enter Tryz.func98, Tryz.ntmps98
  go_wp2_with fail
  refine (HH.out _).mono ?_; rintro e w' ⟨rfl, rfl⟩
  go_wp2_with fail
  go_ret
  exact jcheck_no HM.out k0
set_option maxRecDepth 100000 in
set_option maxHeartbeats 8000000 in
theorem jcheck_ftte (r : JRec) (v : Value) (lo hi : Nat) (w : World) (h : RunsIn w v r.runs lo hi) (hl : r.runs.length ≤ 1000000) (hf : r.fits) (hI : kId r.kind = false) (hN : kName r.kind = true) (hB : kBlob r.kind = true) (hnm : r.name.isEmpty = true) :
  Calls Tryz.prog 98 #[.agg (r.cells v)] w (JCheck (mayR r) w) := by
 obtain ⟨k, id, name, size, runs⟩ := r
 obtain ⟨f1, f2, f3, f4⟩ := hf
 simp only at h hl f1 f2 f3 f4 hI hN hB hnm
 obtain ⟨p, c, rfl⟩ := h.shape
 unfold JRec.cells mayR
 simp only
 have hh := fun W => jhas k W
 obtain ⟨id0, id1⟩ := bd32 f2
 have hsb := bd64 f4
 have hsz : (bs name).size = name.length := bs_size name
 unfold maxLen at f3
 have k0 : Kept [] w (w.alloc (.cells #[.int .i64 k, .int .u32 id, .string (bs name), .int .i64 size, .slice p runs.length c] 102)) := (Kept.refl _ _).alloc _
 have hpl := fun W (kk : Kept [] w W) => jplaced _ runs size lo hi W (h.kept0 kk) hl f4
 unfold PlSays at hpl
 have HH := Lib.hid hh
 have HP := Lib.hid hpl
 clear hh hpl h f1 f2 f4
 rw [hI, hN, hB] at HH ⊢
 clear hI hN hB
 generalize hpb : plB runs size = P at *
 have HPB := Lib.hid hpb
 clear hpb
 rcases name_cases name with ⟨nm1, nm2, nm3, nm4⟩ | ⟨nm1, nm2, nm3⟩
 rotate_left
 ·rw [nm1] at hnm; cases hnm
 clear hnm
 subst nm1
 rcases (by omega : id = 0 ∨ (1 ≤ id ∧ id ≤ 4294967294) ∨ id = 4294967295) with i1 | ⟨i1, i2⟩ | i1
 ·subst i1
  have hm : mayG false true true 0 [] size runs = false := by
   unfold mayG
   try simp []
  have HM := Lib.hid hm
  clear hm
  go_enter Tryz.func98, Tryz.ntmps98
  go_wp2_with fail
  refine (HH.out _).mono ?_; rintro e w' ⟨rfl, rfl⟩
  go_wp2_with fail
  go_ret
  exact jcheck_no HM.out k0
 ·have i3 : ¬ id = 0 := by omega
  have i4 : (id == 0) = false := by simpa using i3
  have i5 : (id != 0) = true := by simpa using i3
  have hm : mayG false true true id [] size runs = false := by
   unfold mayG
   try simp [i3, i2]
  have HM := Lib.hid hm
  clear hm
  go_enter Tryz.func98, Tryz.ntmps98
  go_wp2_with fail
  refine (HH.out _).mono ?_; rintro e w' ⟨rfl, rfl⟩
  go_wp2_with fail
  go_ret
  exact jcheck_no HM.out k0
 ·subst i1
  have hm : mayG false true true 4294967295 [] size runs = false := by
   unfold mayG
   try simp []
  have HM := Lib.hid hm
  clear hm
  go_enter Tryz.func98, Tryz.ntmps98
  go_wp2_with fail
  refine (HH.out _).mono ?_; rintro e w' ⟨rfl, rfl⟩
  go_wp2_with fail
  go_ret
  exact jcheck_no HM.out k0
set_option maxRecDepth 100000 in
set_option maxHeartbeats 8000000 in
theorem jcheck_fttn (r : JRec) (v : Value) (lo hi : Nat) (w : World) (h : RunsIn w v r.runs lo hi) (hl : r.runs.length ≤ 1000000) (hf : r.fits) (hI : kId r.kind = false) (hN : kName r.kind = true) (hB : kBlob r.kind = true) (hnm : r.name.isEmpty = false) :
  Calls Tryz.prog 98 #[.agg (r.cells v)] w (JCheck (mayR r) w) := by
 obtain ⟨k, id, name, size, runs⟩ := r
 obtain ⟨f1, f2, f3, f4⟩ := hf
 simp only at h hl f1 f2 f3 f4 hI hN hB hnm
 obtain ⟨p, c, rfl⟩ := h.shape
 unfold JRec.cells mayR
 simp only
 have hh := fun W => jhas k W
 obtain ⟨id0, id1⟩ := bd32 f2
 have hsb := bd64 f4
 have hsz : (bs name).size = name.length := bs_size name
 unfold maxLen at f3
 have k0 : Kept [] w (w.alloc (.cells #[.int .i64 k, .int .u32 id, .string (bs name), .int .i64 size, .slice p runs.length c] 102)) := (Kept.refl _ _).alloc _
 have hpl := fun W (kk : Kept [] w W) => jplaced _ runs size lo hi W (h.kept0 kk) hl f4
 unfold PlSays at hpl
 have HH := Lib.hid hh
 have HP := Lib.hid hpl
 clear hh hpl h f1 f2 f4
 rw [hI, hN, hB] at HH ⊢
 clear hI hN hB
 generalize hpb : plB runs size = P at *
 have HPB := Lib.hid hpb
 clear hpb
 rcases name_cases name with ⟨nm1, nm2, nm3, nm4⟩ | ⟨nm1, nm2, nm3⟩
 ·rw [nm1] at hnm; cases hnm
 clear hnm
 rcases (by omega : id = 0 ∨ (1 ≤ id ∧ id ≤ 4294967294) ∨ id = 4294967295) with i1 | ⟨i1, i2⟩ | i1
 ·subst i1
  rcases (by omega : name.length ≤ 48 ∨ 48 < name.length) with l1 | l1
  ·have hm : mayG false true true 0 name size runs = P := by
    unfold mayG
    rw [HPB.out]
    try simp [nm1, l1]
   have HM := Lib.hid hm
   clear hm
   cases P
   ·go_enter Tryz.func98, Tryz.ntmps98
    go_wp2_with fail
    refine (HH.out _).mono ?_; rintro e w' ⟨rfl, rfl⟩
    go_wp2_with fail
    refine (HP.out _ k0).mono ?_; rintro e w1 ⟨rfl, k1⟩
    go_wp2_with fail
    go_ret
    exact jcheck_no HM.out (k0.trans k1)
   ·go_enter Tryz.func98, Tryz.ntmps98
    go_wp2_with fail
    refine (HH.out _).mono ?_; rintro e w' ⟨rfl, rfl⟩
    go_wp2_with fail
    refine (HP.out _ k0).mono ?_; rintro e w1 ⟨rfl, k1⟩
    go_wp2_with fail
    go_ret
    exact jcheck_yes HM.out (k0.trans k1)
  ·have l2 : ¬ name.length ≤ 48 := by omega
   have l3 : (48 : Int) < name.length := by omega
   have hm : mayG false true true 0 name size runs = false := by
    unfold mayG
    try simp [nm1, l2]
   have HM := Lib.hid hm
   clear hm
   go_enter Tryz.func98, Tryz.ntmps98
   go_wp2_with fail
   refine (HH.out _).mono ?_; rintro e w' ⟨rfl, rfl⟩
   go_wp2_with fail
   go_ret
   exact jcheck_no HM.out k0
 ·have i3 : ¬ id = 0 := by omega
  have i4 : (id == 0) = false := by simpa using i3
  have i5 : (id != 0) = true := by simpa using i3
  have hm : mayG false true true id name size runs = false := by
   unfold mayG
   try simp [i3, i2]
  have HM := Lib.hid hm
  clear hm
  go_enter Tryz.func98, Tryz.ntmps98
  go_wp2_with fail
  refine (HH.out _).mono ?_; rintro e w' ⟨rfl, rfl⟩
  go_wp2_with fail
  go_ret
  exact jcheck_no HM.out k0
 ·subst i1
  have hm : mayG false true true 4294967295 name size runs = false := by
   unfold mayG
   try simp []
  have HM := Lib.hid hm
  clear hm
  go_enter Tryz.func98, Tryz.ntmps98
  go_wp2_with fail
  refine (HH.out _).mono ?_; rintro e w' ⟨rfl, rfl⟩
  go_wp2_with fail
  go_ret
  exact jcheck_no HM.out k0
end Go.Proofs.YtdkimcnlhmhpgaaGreat
