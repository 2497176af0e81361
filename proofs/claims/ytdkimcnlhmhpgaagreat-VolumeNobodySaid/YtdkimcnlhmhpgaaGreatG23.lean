/- -/
import Derived.Test.YtdkimcnlhmhpgaaGreatG16
import Derived.Test.YtdkimcnlhmhpgaaGreatG21
import Derived.Test.YtdkimcnlhmhpgaaGreatG22
set_option linter.unusedVariables false
set_option linter.unusedSimpArgs false
namespace Go.Proofs.YtdkimcnlhmhpgaaGreat
open Go.RowKit
set_option maxRecDepth 100000 in
set_option maxHeartbeats 8000000 in
theorem jcheck_tffe (r : JRec) (v : Value) (lo hi : Nat) (w : World) (h : RunsIn w v r.runs lo hi) (hl : r.runs.length ≤ 1000000) (hf : r.fits) (hI : kId r.kind = true) (hN : kName r.kind = false) (hB : kBlob r.kind = false) (hnm : r.name.isEmpty = true) :
    Calls Tryz.prog 98 #[.agg (r.cells v)] w (JCheck (mayR r) w) := by
  obtain ⟨k, id, name, size, runs⟩ := r
  obtain ⟨f1, f2, f3, f4⟩ := hf
  simp only at h hl f1 f2 f3 f4 hI hN hB hnm
  obtain ⟨p, c, rfl⟩ := h.shape
  unfold JRec.cells mayR
  simp only
  have hh := fun W => jhas k W
  obtain ⟨id0, id1⟩ := bd32 f2
  have hsb := bd64 f4
  have hsz : (bs name).size = name.length := bs_size name
  unfold maxLen at f3
  have k0 : Kept [] w (w.alloc (.cells #[.int .i64 k, .int .u32 id, .string (bs name), .int .i64 size, .slice p runs.length c] 102)) := (Kept.refl _ _).alloc _
  have hpl := fun W (kk : Kept [] w W) => jplaced _ runs size lo hi W (h.kept0 kk) hl f4
  unfold PlSays at hpl
  have HH := Lib.hid hh
  have HP := Lib.hid hpl
  clear hh hpl h f1 f2 f4
  rw [hI, hN, hB] at HH ⊢
  clear hI hN hB
  generalize hpb : plB runs size = P at *
  have HPB := Lib.hid hpb
  clear hpb
  rcases name_cases name with ⟨nm1, nm2, nm3, nm4⟩ | ⟨nm1, nm2, nm3⟩
  rotate_left
  · rw [nm1] at hnm; cases hnm
  clear hnm
  subst nm1
  rcases (by omega : id = 0 ∨ (1 ≤ id ∧ id ≤ 4294967294) ∨ id = 4294967295) with i1 | ⟨i1, i2⟩ | i1
  · subst i1
    have hm : mayG true false false 0 [] size runs = false := by
      unfold mayG
      try simp []
    have HM := Lib.hid hm
    clear hm
    go_enter Tryz.func98, Tryz.ntmps98
    go_wp2_with fail
    refine (HH.out _).mono ?_; rintro e w' ⟨rfl, rfl⟩
    go_wp2_with fail
    go_ret
    exact jcheck_no HM.out k0
  · have i3 : ¬ id = 0 := by omega
    have i4 : (id == 0) = false := by simpa using i3
    have i5 : (id != 0) = true := by simpa using i3
    rcases (by omega : size = 0 ∨ size ≠ 0) with z1 | z1
    · subst z1
      rcases List.eq_nil_or_concat runs with e1 | ⟨ri, rq, e1⟩
      · subst e1
        have hP : P = true := by rw [← HPB.out]; exact plB_zero
        subst hP
        have hm : mayG true false false id [] 0 [] = true := by
          unfold mayG
          rw [HPB.out]
          try simp [i3, i2]
        have HM := Lib.hid hm
        clear hm
        go_enter Tryz.func98, Tryz.ntmps98
        go_wp2_with fail
        refine (HH.out _).mono ?_; rintro e w' ⟨rfl, rfl⟩
        go_wp2_with fail
        refine (HP.out _ k0).mono ?_; rintro e w1 ⟨rfl, k1⟩
        go_wp2_with fail
        go_ret
        exact jcheck_yes HM.out (k0.trans k1)
      · have e2 : 1 ≤ runs.length := by rw [e1]; simp
        have e3 : (0 : Int) < runs.length := by omega
        have e4 : runs.isEmpty = false := by rw [e1]; simp
        clear e1
        have hm : mayG true false false id [] 0 runs = false := by
          unfold mayG
          try simp [i3, i2, e4]
        have HM := Lib.hid hm
        clear hm
        go_enter Tryz.func98, Tryz.ntmps98
        go_wp2_with fail
        refine (HH.out _).mono ?_; rintro e w' ⟨rfl, rfl⟩
        go_wp2_with fail
        go_ret
        exact jcheck_no HM.out k0
    · have z2 : (size == 0) = false := by simpa using z1
      have z3 : (size != 0) = true := by simpa using z1
      have hm : mayG true false false id [] size runs = false := by
        unfold mayG
        try simp [i3, i2, z1]
      have HM := Lib.hid hm
      clear hm
      go_enter Tryz.func98, Tryz.ntmps98
      go_wp2_with fail
      refine (HH.out _).mono ?_; rintro e w' ⟨rfl, rfl⟩
      go_wp2_with fail
      go_ret
      exact jcheck_no HM.out k0
  · subst i1
    have hm : mayG true false false 4294967295 [] size runs = false := by
      unfold mayG
      try simp []
    have HM := Lib.hid hm
    clear hm
    go_enter Tryz.func98, Tryz.ntmps98
    go_wp2_with fail
    refine (HH.out _).mono ?_; rintro e w' ⟨rfl, rfl⟩
    go_wp2_with fail
    go_ret
    exact jcheck_no HM.out k0
set_option maxRecDepth 100000 in
set_option maxHeartbeats 8000000 in
theorem jcheck_tffn (r : JRec) (v : Value) (lo hi : Nat) (w : World) (h : RunsIn w v r.runs lo hi) (hl : r.runs.length ≤ 1000000) (hf : r.fits) (hI : kId r.kind = true) (hN : kName r.kind = false) (hB : kBlob r.kind = false) (hnm : r.name.isEmpty = false) :
    Calls Tryz.prog 98 #[.agg (r.cells v)] w (JCheck (mayR r) w) := by
  obtain ⟨k, id, name, size, runs⟩ := r
  obtain ⟨f1, f2, f3, f4⟩ := hf
  simp only at h hl f1 f2 f3 f4 hI hN hB hnm
  obtain ⟨p, c, rfl⟩ := h.shape
  unfold JRec.cells mayR
  simp only
  have hh := fun W => jhas k W
  obtain ⟨id0, id1⟩ := bd32 f2
  have hsb := bd64 f4
  have hsz : (bs name).size = name.length := bs_size name
  unfold maxLen at f3
  have k0 : Kept [] w (w.alloc (.cells #[.int .i64 k, .int .u32 id, .string (bs name), .int .i64 size, .slice p runs.length c] 102)) := (Kept.refl _ _).alloc _
  have hpl := fun W (kk : Kept [] w W) => jplaced _ runs size lo hi W (h.kept0 kk) hl f4
  unfold PlSays at hpl
  have HH := Lib.hid hh
  have HP := Lib.hid hpl
  clear hh hpl h f1 f2 f4
  rw [hI, hN, hB] at HH ⊢
  clear hI hN hB
  generalize hpb : plB runs size = P at *
  have HPB := Lib.hid hpb
  clear hpb
  rcases name_cases name with ⟨nm1, nm2, nm3, nm4⟩ | ⟨nm1, nm2, nm3⟩
  · rw [nm1] at hnm; cases hnm
  clear hnm
  rcases (by omega : id = 0 ∨ (1 ≤ id ∧ id ≤ 4294967294) ∨ id = 4294967295) with i1 | ⟨i1, i2⟩ | i1
  · subst i1
    have hm : mayG true false false 0 name size runs = false := by
      unfold mayG
      try simp []
    have HM := Lib.hid hm
    clear hm
    go_enter Tryz.func98, Tryz.ntmps98
    go_wp2_with fail
    refine (HH.out _).mono ?_; rintro e w' ⟨rfl, rfl⟩
    go_wp2_with fail
    go_ret
    exact jcheck_no HM.out k0
  · have i3 : ¬ id = 0 := by omega
    have i4 : (id == 0) = false := by simpa using i3
    have i5 : (id != 0) = true := by simpa using i3
    have hm : mayG true false false id name size runs = false := by
      unfold mayG
      try simp [i3, i2, nm1]
    have HM := Lib.hid hm
    clear hm
    go_enter Tryz.func98, Tryz.ntmps98
    go_wp2_with fail
    refine (HH.out _).mono ?_; rintro e w' ⟨rfl, rfl⟩
    go_wp2_with fail
    go_ret
    exact jcheck_no HM.out k0
  · subst i1
    have hm : mayG true false false 4294967295 name size runs = false := by
      unfold mayG
      try simp []
    have HM := Lib.hid hm
    clear hm
    go_enter Tryz.func98, Tryz.ntmps98
    go_wp2_with fail
    refine (HH.out _).mono ?_; rintro e w' ⟨rfl, rfl⟩
    go_wp2_with fail
    go_ret
    exact jcheck_no HM.out k0
set_option maxRecDepth 100000 in
set_option maxHeartbeats 8000000 in
theorem jcheck_tfte (r : JRec) (v : Value) (lo hi : Nat) (w : World) (h : RunsIn w v r.runs lo hi) (hl : r.runs.length ≤ 1000000) (hf : r.fits) (hI : kId r.kind = true) (hN : kName r.kind = false) (hB : kBlob r.kind = true) (hnm : r.name.isEmpty = true) :
    Calls Tryz.prog 98 #[.agg (r.cells v)] w (JCheck (mayR r) w) := by
  obtain ⟨k, id, name, size, runs⟩ := r
  obtain ⟨f1, f2, f3, f4⟩ := hf
  simp only at h hl f1 f2 f3 f4 hI hN hB hnm
  obtain ⟨p, c, rfl⟩ := h.shape
  unfold JRec.cells mayR
  simp only
  have hh := fun W => jhas k W
  obtain ⟨id0, id1⟩ := bd32 f2
  have hsb := bd64 f4
  have hsz : (bs name).size = name.length := bs_size name
  unfold maxLen at f3
  have k0 : Kept [] w (w.alloc (.cells #[.int .i64 k, .int .u32 id, .string (bs name), .int .i64 size, .slice p runs.length c] 102)) := (Kept.refl _ _).alloc _
  have hpl := fun W (kk : Kept [] w W) => jplaced _ runs size lo hi W (h.kept0 kk) hl f4
  unfold PlSays at hpl
  have HH := Lib.hid hh
  have HP := Lib.hid hpl
  clear hh hpl h f1 f2 f4
  rw [hI, hN, hB] at HH ⊢
  clear hI hN hB
  generalize hpb : plB runs size = P at *
  have HPB := Lib.hid hpb
  clear hpb
  rcases name_cases name with ⟨nm1, nm2, nm3, nm4⟩ | ⟨nm1, nm2, nm3⟩
  rotate_left
  · rw [nm1] at hnm; cases hnm
  clear hnm
  subst nm1
  rcases (by omega : id = 0 ∨ (1 ≤ id ∧ id ≤ 4294967294) ∨ id = 4294967295) with i1 | ⟨i1, i2⟩ | i1
  · subst i1
    have hm : mayG true false true 0 [] size runs = false := by
      unfold mayG
      try simp []
    have HM := Lib.hid hm
    clear hm
    go_enter Tryz.func98, Tryz.ntmps98
    go_wp2_with fail
    refine (HH.out _).mono ?_; rintro e w' ⟨rfl, rfl⟩
    go_wp2_with fail
    go_ret
    exact jcheck_no HM.out k0
  · have i3 : ¬ id = 0 := by omega
    have i4 : (id == 0) = false := by simpa using i3
    have i5 : (id != 0) = true := by simpa using i3
    have hm : mayG true false true id [] size runs = P := by
      unfold mayG
      rw [HPB.out]
      try simp [i3, i2]
    have HM := Lib.hid hm
    clear hm
    cases P
    · go_enter Tryz.func98, Tryz.ntmps98
      go_wp2_with fail
      refine (HH.out _).mono ?_; rintro e w' ⟨rfl, rfl⟩
      go_wp2_with fail
      refine (HP.out _ k0).mono ?_; rintro e w1 ⟨rfl, k1⟩
      go_wp2_with fail
      go_ret
      exact jcheck_no HM.out (k0.trans k1)
    · go_enter Tryz.func98, Tryz.ntmps98
      go_wp2_with fail
      refine (HH.out _).mono ?_; rintro e w' ⟨rfl, rfl⟩
      go_wp2_with fail
      refine (HP.out _ k0).mono ?_; rintro e w1 ⟨rfl, k1⟩
      go_wp2_with fail
      go_ret
      exact jcheck_yes HM.out (k0.trans k1)
  · subst i1
    have hm : mayG true false true 4294967295 [] size runs = false := by
      unfold mayG
      try simp []
    have HM := Lib.hid hm
    clear hm
    go_enter Tryz.func98, Tryz.ntmps98
    go_wp2_with fail
    refine (HH.out _).mono ?_; rintro e w' ⟨rfl, rfl⟩
    go_wp2_with fail
    go_ret
    exact jcheck_no HM.out k0
set_option maxRecDepth 100000 in
set_option maxHeartbeats 8000000 in
theorem jcheck_tftn (r : JRec) (v : Value) (lo hi : Nat) (w : World) (h : RunsIn w v r.runs lo hi) (hl : r.runs.length ≤ 1000000) (hf : r.fits) (hI : kId r.kind = true) (hN : kName r.kind = false) (hB : kBlob r.kind = true) (hnm : r.name.isEmpty = false) :
    Calls Tryz.prog 98 #[.agg (r.cells v)] w (JCheck (mayR r) w) := by
  obtain ⟨k, id, name, size, runs⟩ := r
  obtain ⟨f1, f2, f3, f4⟩ := hf
  simp only at h hl f1 f2 f3 f4 hI hN hB hnm
  obtain ⟨p, c, rfl⟩ := h.shape
  unfold JRec.cells mayR
  simp only
  have hh := fun W => jhas k W
  obtain ⟨id0, id1⟩ := bd32 f2
  have hsb := bd64 f4
  have hsz : (bs name).size = name.length := bs_size name
  unfold maxLen at f3
  have k0 : Kept [] w (w.alloc (.cells #[.int .i64 k, .int .u32 id, .string (bs name), .int .i64 size, .slice p runs.length c] 102)) := (Kept.refl _ _).alloc _
  have hpl := fun W (kk : Kept [] w W) => jplaced _ runs size lo hi W (h.kept0 kk) hl f4
  unfold PlSays at hpl
  have HH := Lib.hid hh
  have HP := Lib.hid hpl
  clear hh hpl h f1 f2 f4
  rw [hI, hN, hB] at HH ⊢
  clear hI hN hB
  generalize hpb : plB runs size = P at *
  have HPB := Lib.hid hpb
  clear hpb
  rcases name_cases name with ⟨nm1, nm2, nm3, nm4⟩ | ⟨nm1, nm2, nm3⟩
  · rw [nm1] at hnm; cases hnm
  clear hnm
  rcases (by omega : id = 0 ∨ (1 ≤ id ∧ id ≤ 4294967294) ∨ id = 4294967295) with i1 | ⟨i1, i2⟩ | i1
  · subst i1
    have hm : mayG true false true 0 name size runs = false := by
      unfold mayG
      try simp []
    have HM := Lib.hid hm
    clear hm
    go_enter Tryz.func98, Tryz.ntmps98
    go_wp2_with fail
    refine (HH.out _).mono ?_; rintro e w' ⟨rfl, rfl⟩
    go_wp2_with fail
    go_ret
    exact jcheck_no HM.out k0
  · have i3 : ¬ id = 0 := by omega
    have i4 : (id == 0) = false := by simpa using i3
    have i5 : (id != 0) = true := by simpa using i3
    have hm : mayG true false true id name size runs = false := by
      unfold mayG
      try simp [i3, i2, nm1]
    have HM := Lib.hid hm
    clear hm
    go_enter Tryz.func98, Tryz.ntmps98
    go_wp2_with fail
    refine (HH.out _).mono ?_; rintro e w' ⟨rfl, rfl⟩
    go_wp2_with fail
    go_ret
    exact jcheck_no HM.out k0
  · subst i1
    have hm : mayG true false true 4294967295 name size runs = false := by
      unfold mayG
      try simp []
    have HM := Lib.hid hm
    clear hm
    go_enter Tryz.func98, Tryz.ntmps98
    go_wp2_with fail
    refine (HH.out _).mono ?_; rintro e w' ⟨rfl, rfl⟩
    go_wp2_with fail
    go_ret
    exact jcheck_no HM.out k0
set_option maxRecDepth 100000 in
set_option maxHeartbeats 8000000 in
theorem jcheck_ttfe (r : JRec) (v : Value) (lo hi : Nat) (w : World) (h : RunsIn w v r.runs lo hi) (hl : r.runs.length ≤ 1000000) (hf : r.fits) (hI : kId r.kind = true) (hN : kName r.kind = true) (hB : kBlob r.kind = false) (hnm : r.name.isEmpty = true) :
    Calls Tryz.prog 98 #[.agg (r.cells v)] w (JCheck (mayR r) w) := by
  obtain ⟨k, id, name, size, runs⟩ := r
  obtain ⟨f1, f2, f3, f4⟩ := hf
  simp only at h hl f1 f2 f3 f4 hI hN hB hnm
  obtain ⟨p, c, rfl⟩ := h.shape
  unfold JRec.cells mayR
  simp only
  have hh := fun W => jhas k W
  obtain ⟨id0, id1⟩ := bd32 f2
  have hsb := bd64 f4
  have hsz : (bs name).size = name.length := bs_size name
  unfold maxLen at f3
  have k0 : Kept [] w (w.alloc (.cells #[.int .i64 k, .int .u32 id, .string (bs name), .int .i64 size, .slice p runs.length c] 102)) := (Kept.refl _ _).alloc _
  have hpl := fun W (kk : Kept [] w W) => jplaced _ runs size lo hi W (h.kept0 kk) hl f4
  unfold PlSays at hpl
  have HH := Lib.hid hh
  have HP := Lib.hid hpl
  clear hh hpl h f1 f2 f4
  rw [hI, hN, hB] at HH ⊢
  clear hI hN hB
  generalize hpb : plB runs size = P at *
  have HPB := Lib.hid hpb
  clear hpb
  rcases name_cases name with ⟨nm1, nm2, nm3, nm4⟩ | ⟨nm1, nm2, nm3⟩
  rotate_left
  · rw [nm1] at hnm; cases hnm
  clear hnm
  subst nm1
  rcases (by omega : id = 0 ∨ (1 ≤ id ∧ id ≤ 4294967294) ∨ id = 4294967295) with i1 | ⟨i1, i2⟩ | i1
  · subst i1
    have hm : mayG true true false 0 [] size runs = false := by
      unfold mayG
      try simp []
    have HM := Lib.hid hm
    clear hm
    go_enter Tryz.func98, Tryz.ntmps98
    go_wp2_with fail
    refine (HH.out _).mono ?_; rintro e w' ⟨rfl, rfl⟩
    go_wp2_with fail
    go_ret
    exact jcheck_no HM.out k0
  · have i3 : ¬ id = 0 := by omega
    have i4 : (id == 0) = false := by simpa using i3
    have i5 : (id != 0) = true := by simpa using i3
    have hm : mayG true true false id [] size runs = false := by
      unfold mayG
      try simp [i3, i2]
    have HM := Lib.hid hm
    clear hm
    go_enter Tryz.func98, Tryz.ntmps98
    go_wp2_with fail
    refine (HH.out _).mono ?_; rintro e w' ⟨rfl, rfl⟩
    go_wp2_with fail
    go_ret
    exact jcheck_no HM.out k0
  · subst i1
    have hm : mayG true true false 4294967295 [] size runs = false := by
      unfold mayG
      try simp []
    have HM := Lib.hid hm
    clear hm
    go_enter Tryz.func98, Tryz.ntmps98
    go_wp2_with fail
    refine (HH.out _).mono ?_; rintro e w' ⟨rfl, rfl⟩
    go_wp2_with fail
    go_ret
    exact jcheck_no HM.out k0
set_option maxRecDepth 100000 in
set_option maxHeartbeats 8000000 in
theorem jcheck_ttfn (r : JRec) (v : Value) (lo hi : Nat) (w : World) (h : RunsIn w v r.runs lo hi) (hl : r.runs.length ≤ 1000000) (hf : r.fits) (hI : kId r.kind = true) (hN : kName r.kind = true) (hB : kBlob r.kind = false) (hnm : r.name.isEmpty = false) :
    Calls Tryz.prog 98 #[.agg (r.cells v)] w (JCheck (mayR r) w) := by
  obtain ⟨k, id, name, size, runs⟩ := r
  obtain ⟨f1, f2, f3, f4⟩ := hf
  simp only at h hl f1 f2 f3 f4 hI hN hB hnm
  obtain ⟨p, c, rfl⟩ := h.shape
  unfold JRec.cells mayR
  simp only
  have hh := fun W => jhas k W
  obtain ⟨id0, id1⟩ := bd32 f2
  have hsb := bd64 f4
  have hsz : (bs name).size = name.length := bs_size name
  unfold maxLen at f3
  have k0 : Kept [] w (w.alloc (.cells #[.int .i64 k, .int .u32 id, .string (bs name), .int .i64 size, .slice p runs.length c] 102)) := (Kept.refl _ _).alloc _
  have hpl := fun W (kk : Kept [] w W) => jplaced _ runs size lo hi W (h.kept0 kk) hl f4
  unfold PlSays at hpl
  have HH := Lib.hid hh
  have HP := Lib.hid hpl
  clear hh hpl h f1 f2 f4
  rw [hI, hN, hB] at HH ⊢
  clear hI hN hB
  generalize hpb : plB runs size = P at *
  have HPB := Lib.hid hpb
  clear hpb
  rcases name_cases name with ⟨nm1, nm2, nm3, nm4⟩ | ⟨nm1, nm2, nm3⟩
  · rw [nm1] at hnm; cases hnm
  clear hnm
  rcases (by omega : id = 0 ∨ (1 ≤ id ∧ id ≤ 4294967294) ∨ id = 4294967295) with i1 | ⟨i1, i2⟩ | i1
  · subst i1
    have hm : mayG true true false 0 name size runs = false := by
      unfold mayG
      try simp []
    have HM := Lib.hid hm
    clear hm
    go_enter Tryz.func98, Tryz.ntmps98
    go_wp2_with fail
    refine (HH.out _).mono ?_; rintro e w' ⟨rfl, rfl⟩
    go_wp2_with fail
    go_ret
    exact jcheck_no HM.out k0
  · have i3 : ¬ id = 0 := by omega
    have i4 : (id == 0) = false := by simpa using i3
    have i5 : (id != 0) = true := by simpa using i3
    rcases (by omega : name.length ≤ 48 ∨ 48 < name.length) with l1 | l1
    · rcases (by omega : size = 0 ∨ size ≠ 0) with z1 | z1
      · subst z1
        rcases List.eq_nil_or_concat runs with e1 | ⟨ri, rq, e1⟩
        · subst e1
          have hP : P = true := by rw [← HPB.out]; exact plB_zero
          subst hP
          have hm : mayG true true false id name 0 [] = true := by
            unfold mayG
            rw [HPB.out]
            try simp [i3, i2, nm1, l1]
          have HM := Lib.hid hm
          clear hm
          go_enter Tryz.func98, Tryz.ntmps98
          go_wp2_with fail
          refine (HH.out _).mono ?_; rintro e w' ⟨rfl, rfl⟩
          go_wp2_with fail
          refine (HP.out _ k0).mono ?_; rintro e w1 ⟨rfl, k1⟩
          go_wp2_with fail
          go_ret
          exact jcheck_yes HM.out (k0.trans k1)
        · have e2 : 1 ≤ runs.length := by rw [e1]; simp
          have e3 : (0 : Int) < runs.length := by omega
          have e4 : runs.isEmpty = false := by rw [e1]; simp
          clear e1
          have hm : mayG true true false id name 0 runs = false := by
            unfold mayG
            try simp [i3, i2, nm1, l1, e4]
          have HM := Lib.hid hm
          clear hm
          go_enter Tryz.func98, Tryz.ntmps98
          go_wp2_with fail
          refine (HH.out _).mono ?_; rintro e w' ⟨rfl, rfl⟩
          go_wp2_with fail
          go_ret
          exact jcheck_no HM.out k0
      · have z2 : (size == 0) = false := by simpa using z1
        have z3 : (size != 0) = true := by simpa using z1
        have hm : mayG true true false id name size runs = false := by
          unfold mayG
          try simp [i3, i2, nm1, l1, z1]
        have HM := Lib.hid hm
        clear hm
        go_enter Tryz.func98, Tryz.ntmps98
        go_wp2_with fail
        refine (HH.out _).mono ?_; rintro e w' ⟨rfl, rfl⟩
        go_wp2_with fail
        go_ret
        exact jcheck_no HM.out k0
    · have l2 : ¬ name.length ≤ 48 := by omega
      have l3 : (48 : Int) < name.length := by omega
      have hm : mayG true true false id name size runs = false := by
        unfold mayG
        try simp [i3, i2, nm1, l2]
      have HM := Lib.hid hm
      clear hm
      go_enter Tryz.func98, Tryz.ntmps98
      go_wp2_with fail
      refine (HH.out _).mono ?_; rintro e w' ⟨rfl, rfl⟩
      go_wp2_with fail
      go_ret
      exact jcheck_no HM.out k0
  · subst i1
    have hm : mayG true true false 4294967295 name size runs = false := by
      unfold mayG
      try simp []
    have HM := Lib.hid hm
    clear hm
    go_enter Tryz.func98, Tryz.ntmps98
    go_wp2_with fail
    refine (HH.out _).mono ?_; rintro e w' ⟨rfl, rfl⟩
    go_wp2_with fail
    go_ret
    exact jcheck_no HM.out k0
set_option maxRecDepth 100000 in
set_option maxHeartbeats 8000000 in
theorem jcheck_ttte (r : JRec) (v : Value) (lo hi : Nat) (w : World) (h : RunsIn w v r.runs lo hi) (hl : r.runs.length ≤ 1000000) (hf : r.fits) (hI : kId r.kind = true) (hN : kName r.kind = true) (hB : kBlob r.kind = true) (hnm : r.name.isEmpty = true) :
    Calls Tryz.prog 98 #[.agg (r.cells v)] w (JCheck (mayR r) w) := by
  obtain ⟨k, id, name, size, runs⟩ := r
  obtain ⟨f1, f2, f3, f4⟩ := hf
  simp only at h hl f1 f2 f3 f4 hI hN hB hnm
  obtain ⟨p, c, rfl⟩ := h.shape
  unfold JRec.cells mayR
  simp only
  have hh := fun W => jhas k W
  obtain ⟨id0, id1⟩ := bd32 f2
  have hsb := bd64 f4
  have hsz : (bs name).size = name.length := bs_size name
  unfold maxLen at f3
  have k0 : Kept [] w (w.alloc (.cells #[.int .i64 k, .int .u32 id, .string (bs name), .int .i64 size, .slice p runs.length c] 102)) := (Kept.refl _ _).alloc _
  have hpl := fun W (kk : Kept [] w W) => jplaced _ runs size lo hi W (h.kept0 kk) hl f4
  unfold PlSays at hpl
  have HH := Lib.hid hh
  have HP := Lib.hid hpl
  clear hh hpl h f1 f2 f4
  rw [hI, hN, hB] at HH ⊢
  clear hI hN hB
  generalize hpb : plB runs size = P at *
  have HPB := Lib.hid hpb
  clear hpb
  rcases name_cases name with ⟨nm1, nm2, nm3, nm4⟩ | ⟨nm1, nm2, nm3⟩
  rotate_left
  · rw [nm1] at hnm; cases hnm
  clear hnm
  subst nm1
  rcases (by omega : id = 0 ∨ (1 ≤ id ∧ id ≤ 4294967294) ∨ id = 4294967295) with i1 | ⟨i1, i2⟩ | i1
  · subst i1
    have hm : mayG true true true 0 [] size runs = false := by
      unfold mayG
      try simp []
    have HM := Lib.hid hm
    clear hm
    go_enter Tryz.func98, Tryz.ntmps98
    go_wp2_with fail
    refine (HH.out _).mono ?_; rintro e w' ⟨rfl, rfl⟩
    go_wp2_with fail
    go_ret
    exact jcheck_no HM.out k0
  · have i3 : ¬ id = 0 := by omega
    have i4 : (id == 0) = false := by simpa using i3
    have i5 : (id != 0) = true := by simpa using i3
    have hm : mayG true true true id [] size runs = false := by
      unfold mayG
      try simp [i3, i2]
    have HM := Lib.hid hm
    clear hm
    go_enter Tryz.func98, Tryz.ntmps98
    go_wp2_with fail
    refine (HH.out _).mono ?_; rintro e w' ⟨rfl, rfl⟩
    go_wp2_with fail
    go_ret
    exact jcheck_no HM.out k0
  · subst i1
    have hm : mayG true true true 4294967295 [] size runs = false := by
      unfold mayG
      try simp []
    have HM := Lib.hid hm
    clear hm
    go_enter Tryz.func98, Tryz.ntmps98
    go_wp2_with fail
    refine (HH.out _).mono ?_; rintro e w' ⟨rfl, rfl⟩
    go_wp2_with fail
    go_ret
    exact jcheck_no HM.out k0
set_option maxRecDepth 100000 in
set_option maxHeartbeats 8000000 in
theorem jcheck_tttn (r : JRec) (v : Value) (lo hi : Nat) (w : World) (h : RunsIn w v r.runs lo hi) (hl : r.runs.length ≤ 1000000) (hf : r.fits) (hI : kId r.kind = true) (hN : kName r.kind = true) (hB : kBlob r.kind = true) (hnm : r.name.isEmpty = false) :
    Calls Tryz.prog 98 #[.agg (r.cells v)] w (JCheck (mayR r) w) := by
  obtain ⟨k, id, name, size, runs⟩ := r
  obtain ⟨f1, f2, f3, f4⟩ := hf
  simp only at h hl f1 f2 f3 f4 hI hN hB hnm
  obtain ⟨p, c, rfl⟩ := h.shape
  unfold JRec.cells mayR
  simp only
  have hh := fun W => jhas k W
  obtain ⟨id0, id1⟩ := bd32 f2
  have hsb := bd64 f4
  have hsz : (bs name).size = name.length := bs_size name
  unfold maxLen at f3
  have k0 : Kept [] w (w.alloc (.cells #[.int .i64 k, .int .u32 id, .string (bs name), .int .i64 size, .slice p runs.length c] 102)) := (Kept.refl _ _).alloc _
  have hpl := fun W (kk : Kept [] w W) => jplaced _ runs size lo hi W (h.kept0 kk) hl f4
  unfold PlSays at hpl
  have HH := Lib.hid hh
  have HP := Lib.hid hpl
  clear hh hpl h f1 f2 f4
  rw [hI, hN, hB] at HH ⊢
  clear hI hN hB
  generalize hpb : plB runs size = P at *
  have HPB := Lib.hid hpb
  clear hpb
  rcases name_cases name with ⟨nm1, nm2, nm3, nm4⟩ | ⟨nm1, nm2, nm3⟩
  · rw [nm1] at hnm; cases hnm
  clear hnm
  rcases (by omega : id = 0 ∨ (1 ≤ id ∧ id ≤ 4294967294) ∨ id = 4294967295) with i1 | ⟨i1, i2⟩ | i1
  · subst i1
    have hm : mayG true true true 0 name size runs = false := by
      unfold mayG
      try simp []
    have HM := Lib.hid hm
    clear hm
    go_enter Tryz.func98, Tryz.ntmps98
    go_wp2_with fail
    refine (HH.out _).mono ?_; rintro e w' ⟨rfl, rfl⟩
    go_wp2_with fail
    go_ret
    exact jcheck_no HM.out k0
  · have i3 : ¬ id = 0 := by omega
    have i4 : (id == 0) = false := by simpa using i3
    have i5 : (id != 0) = true := by simpa using i3
    rcases (by omega : name.length ≤ 48 ∨ 48 < name.length) with l1 | l1
    · have hm : mayG true true true id name size runs = P := by
        unfold mayG
        rw [HPB.out]
        try simp [i3, i2, nm1, l1]
      have HM := Lib.hid hm
      clear hm
      cases P
      · go_enter Tryz.func98, Tryz.ntmps98
        go_wp2_with fail
        refine (HH.out _).mono ?_; rintro e w' ⟨rfl, rfl⟩
        go_wp2_with fail
        refine (HP.out _ k0).mono ?_; rintro e w1 ⟨rfl, k1⟩
        go_wp2_with fail
        go_ret
        exact jcheck_no HM.out (k0.trans k1)
      · go_enter Tryz.func98, Tryz.ntmps98
        go_wp2_with fail
        refine (HH.out _).mono ?_; rintro e w' ⟨rfl, rfl⟩
        go_wp2_with fail
        refine (HP.out _ k0).mono ?_; rintro e w1 ⟨rfl, k1⟩
        go_wp2_with fail
        go_ret
        exact jcheck_yes HM.out (k0.trans k1)
    · have l2 : ¬ name.length ≤ 48 := by omega
      have l3 : (48 : Int) < name.length := by omega
      have hm : mayG true true true id name size runs = false := by
        unfold mayG
        try simp [i3, i2, nm1, l2]
      have HM := Lib.hid hm
      clear hm
      go_enter Tryz.func98, Tryz.ntmps98
      go_wp2_with fail
      refine (HH.out _).mono ?_; rintro e w' ⟨rfl, rfl⟩
      go_wp2_with fail
      go_ret
      exact jcheck_no HM.out k0
  · subst i1
    have hm : mayG true true true 4294967295 name size runs = false := by
      unfold mayG
      try simp []
    have HM := Lib.hid hm
    clear hm
    go_enter Tryz.func98, Tryz.ntmps98
    go_wp2_with fail
    refine (HH.out _).mono ?_; rintro e w' ⟨rfl, rfl⟩
    go_wp2_with fail
    go_ret
    exact jcheck_no HM.out k0
theorem jcheck (r : JRec) (v : Value) (lo hi : Nat) (w : World) (h : RunsIn w v r.runs lo hi) (hl : r.runs.length ≤ 1000000) (hf : r.fits) :
    Calls Tryz.prog 98 #[.agg (r.cells v)] w (JCheck (mayR r) w) := by
  cases hI : kId r.kind <;> cases hN : kName r.kind <;> cases hB : kBlob r.kind <;> cases hn : r.name.isEmpty
  · exact jcheck_fffn r v lo hi w h hl hf hI hN hB hn
  · exact jcheck_fffe r v lo hi w h hl hf hI hN hB hn
  · exact jcheck_fftn r v lo hi w h hl hf hI hN hB hn
  · exact jcheck_ffte r v lo hi w h hl hf hI hN hB hn
  · exact jcheck_ftfn r v lo hi w h hl hf hI hN hB hn
  · exact jcheck_ftfe r v lo hi w h hl hf hI hN hB hn
  · exact jcheck_fttn r v lo hi w h hl hf hI hN hB hn
  · exact jcheck_ftte r v lo hi w h hl hf hI hN hB hn
  · exact jcheck_tffn r v lo hi w h hl hf hI hN hB hn
  · exact jcheck_tffe r v lo hi w h hl hf hI hN hB hn
  · exact jcheck_tftn r v lo hi w h hl hf hI hN hB hn
  · exact jcheck_tfte r v lo hi w h hl hf hI hN hB hn
  · exact jcheck_ttfn r v lo hi w h hl hf hI hN hB hn
  · exact jcheck_ttfe r v lo hi w h hl hf hI hN hB hn
  · exact jcheck_tttn r v lo hi w h hl hf hI hN hB hn
  · exact jcheck_ttte r v lo hi w h hl hf hI hN hB hn
def IdxZSays (p : JItem → Bool) (l : List JItem) (w : World) (e : Ending) (w' : World) : Prop := ((∃ i, ∃ h : i < l.length, p l[i] = true ∧ (∀ j (hj : j < l.length), j < i → p l[j] = false) ∧ e = .returned (.int .i64 i)) ∨ ((∀ j (hj : j < l.length), p l[j] = false) ∧ e = .returned (.int .i64 (-1)))) ∧ Kept [] w w'
set_option maxRecDepth 100000 in
set_option maxHeartbeats 2000000 in
theorem zindex_bad (p : JItem → Bool) (cv : Value) (v : Value) (l : List JItem) (w : World) (h : ItemsIn w v l) (hl : l.length ≤ 1000000)
    (hp : ∀ W, Kept [] w W → ∀ i (hi : i < l.length) kv, ItemOk W (l[i], kv) → Calls Tryz.prog 230 #[.agg (l[i].cells kv), cv] W fun e w' => e = .returned (.bool (p l[i])) ∧ Kept [] W w') :
    Calls Tryz.prog 187 #[v, .func (.func 230) #[] #[cv]] w (IdxZSays p l w) := by
  obtain ⟨pa, ca, rfl⟩ := h.shape
  have H := Lib.hid h
  have HP := Lib.hid hp
  have hl' : (l.length : Int) ≤ 1000000 := by omega
  clear h hp
  go_enter Tryz.func187, Tryz.ntmps187
  go_wp2_with fail
  go_loopw [8] (fun i wr => ∃ k : Nat, k ≤ l.length ∧ i = .int .i64 k ∧ (∀ j (hj : j < l.length), j < k → p l[j] = false) ∧ Kept [] w wr) (fun i _ => l.length - (intOf i).toNat)
  case atStart => exact ⟨0, Nat.zero_le _, rfl, fun j hj h => absurd h (Nat.not_lt_zero j), Kept.refl _ _⟩
  case round =>
    obtain ⟨k, hk, rfl, hno, hK⟩ := hrel
    by_cases hlt : k < l.length
    · obtain ⟨b, off, kv, rfl, hia, hb, hc1, hc2, HA⟩ := H.out.at4 k hlt
      have hcl := HP.out wr hK k hlt kv (hia.kept0 hK)
      obtain ⟨x0, x1, x2, x3⟩ := HA wr hK
      obtain ⟨R, hR⟩ : ∃ R, p (l[k]'hlt) = R := ⟨_, rfl⟩
      rw [hR] at hcl
      unfold JItem.cells at hcl
      have i1 : (k : Int) < l.length := by omega
      have HCL := Lib.hid hcl
      have HRR := Lib.hid hR
      have HNO := Lib.hid hno
      have HKK := Lib.hid hK
      have HLT := Lib.hid hlt
      clear hia hcl hR hno HA hb
      generalize hLA : l[k]'hlt = A at x0 x1 x2 x3 HCL
      clear hLA
      go_wp2_with fail
      refine HCL.out.mono ?_; rintro e w2 ⟨rfl, k2⟩
      have KK := Lib.hid (HKK.out.trans k2)
      cases R with
      | true =>
        go_wp2_with fail
        go_ret
        exact ⟨Or.inl ⟨k, HLT.out, HRR.out, HNO.out, rfl⟩, KK.out⟩
      | false =>
        go_wp2_with fail
        go_roundw
        case rel => exact ⟨k + 1, HLT.out, by go_num, fun j hj hjk => by
          by_cases e : j = k
          · subst e; exact HRR.out
          · exact HNO.out j hj (by omega), KK.out⟩
        case measure => (have h := HLT.out; simp [intOf]; omega)
    · obtain rfl : k = l.length := by omega
      have HNO := Lib.hid hno
      clear hno
      go_wp2_with fail
      go_ret
      exact ⟨Or.inr ⟨fun j hj => HNO.out j hj hj, rfl⟩, hK⟩
set_option maxRecDepth 100000 in
theorem zbad (k : Int) (kb : Nat) (x : JItem) (xv : Value) (w : World) (hk : w.cell? ⟨kb, 0, none⟩ = some (.int .i64 k)) (hx : ItemOk w (x, xv)) (hl : x.runs.length ≤ 1000000) (hkw : (Lit.int .i64 k).wf = true) :
    Calls Tryz.prog 230 #[.agg (x.cells xv), .pointer (some ⟨kb, 0, none⟩)] w fun e w' => e = .returned (.bool (!mayR (x.told k))) ∧ Kept [] w w' := by
  have ht := fun W => ztold k x xv W hx.slv
  have hc := fun W (q : Kept [] w W) => jcheck (x.told k) xv _ _ W (hx.1.kept0 q) hl (JItem.told_fits hx.2.1 hkw)
  unfold JCheck at hc
  obtain ⟨p, n, c, rfl⟩ := hx.slv
  obtain ⟨M, hM⟩ : ∃ M, mayR (x.told k) = M := ⟨_, rfl⟩
  rw [hM]
  simp only [hM] at hc
  have oX := Own.new w (x.cells (.slice p n c)) 113
  have k0 : Kept [] w (w.alloc (.cells (x.cells (.slice p n c)) 113)) := (Kept.refl _ _).alloc _
  have hkb : kb < w.heap.size := World.block_lt_of_cell? _ _ hk
  have c0 : (w.alloc (.cells (x.cells (.slice p n c)) 113)).cell? ⟨kb, 0, none⟩ = some (.int .i64 k) := Lib.cell?_alloc_some _ hk
  unfold JItem.told JRec.cells at hc ht
  unfold JItem.cells at oX k0 c0 ht ⊢
  obtain ⟨x0, x1, x2, x3⟩ := oX.c4
  have K0 := Lib.hid k0
  have HC := Lib.hid hc
  have HT := Lib.hid ht
  clear oX k0 hc ht hM hkb hk hx
  go_enter Tryz.func230, Tryz.ntmps230
  go_wp2_with fail
  refine (HT.out _).mono ?_; rintro e w2 ⟨rfl, k2⟩
  have K2 := Lib.hid (K0.out.trans k2)
  go_wp2_with fail
  refine (HC.out _ K2.out).mono ?_; rintro e w3 ⟨rfl, k3⟩
  have K3 := Lib.hid (K2.out.trans k3)
  cases M
  · go_wp2_with fail
    go_ret
    exact ⟨rfl, K3.out⟩
  · go_wp2_with fail
    go_ret
    exact ⟨rfl, K3.out⟩
set_option maxRecDepth 100000 in
theorem zcontains (p : JItem → Bool) (cv : Value) (v : Value) (l : List JItem) (w : World) (h : ItemsIn w v l) (hl : l.length ≤ 1000000)
    (hp : ∀ W, Kept [] w W → ∀ i (hi : i < l.length) kv, ItemOk W (l[i], kv) → Calls Tryz.prog 230 #[.agg (l[i].cells kv), cv] W fun e w' => e = .returned (.bool (p l[i])) ∧ Kept [] W w') :
    Calls Tryz.prog 231 #[v, .func (.func 230) #[] #[cv]] w (EqSays (∃ a ∈ l, p a = true) w) := by
  have hi := zindex_bad p cv v l w h hl hp
  unfold IdxZSays at hi
  obtain ⟨pa, ca, rfl⟩ := h.shape
  have HI := Lib.hid hi
  clear hi h hp hl
  go_enter Tryz.func231, Tryz.ntmps231
  go_wp2_with fail
  refine HI.out.mono ?_; rintro e w2 ⟨⟨i, hi, h1, h2, rfl⟩ | ⟨h2, rfl⟩, k2⟩
  · have hx : ∃ a ∈ l, p a = true := ⟨_, List.getElem_mem hi, h1⟩
    have HX := Lib.hid hx
    have i1 : (0 : Int) ≤ (i : Int) := by omega
    clear hx h1 h2 hi
    go_wp2_with fail
    go_ret
    exact eqSays_yes HX.out k2
  · have hx : ¬ ∃ a ∈ l, p a = true := by
      rintro ⟨a, ha, hpa⟩
      obtain ⟨j, hj, rfl⟩ := List.mem_iff_getElem.1 ha
      rw [h2 j hj] at hpa; cases hpa
    have HX := Lib.hid hx
    clear hx h2
    go_wp2_with fail
    go_ret
    exact eqSays_no HX.out k2
set_option maxRecDepth 100000 in
set_option maxHeartbeats 2000000 in
theorem zlisted (k : Int) (v : Value) (l : List JItem) (most : Nat) (w : World) (h : ItemsIn w v l) (hl : SmallL l) (hkw : (Lit.int .i64 k).wf = true) (hm : most ≤ 1000000) :
    Calls Tryz.prog 167 #[.int .i64 k, v, .int .i64 most] w (EqSays (mayL k l most) w) := by
  have o0 := Own.new w #[.int .i64 k] 31
  have k0 : Kept [] w (w.alloc (.cells #[.int .i64 k] 31)) := (Kept.refl _ _).alloc _
  have c0 := o0.cell 0 (by simp)
  have hco := zcontains (fun x => !mayR (x.told k)) (.pointer (some ⟨w.heap.size, 0, none⟩)) v l _ (h.kept0 k0) hl.1 (fun W q i hi kv hx => zbad k w.heap.size _ kv W ((q.cell (by exact o0.lt) (by simp)).trans c0) hx (hl.2 _ (List.getElem_mem hi)) hkw)
  have hri := fun W (q : Kept [] w W) => zrise v l W (h.kept0 q) hl.1
  unfold EqSays at hco
  unfold RiseSays at hri
  obtain ⟨pa, ca, rfl⟩ := h.shape
  have j1 : (l.length : Int) ≤ 1000000 := by have := hl.1; omega
  have HC := Lib.hid hco
  have HR := Lib.hid hri
  have K0 := Lib.hid k0
  simp only [List.getElem_toArray, List.getElem_cons_zero] at c0
  clear hco hri k0 o0 h hl
  by_cases hlen : l.length ≤ most
  · have i1 : (l.length : Int) ≤ most := by omega
    go_enter Tryz.func167, Tryz.ntmps167
    go_wp2_with fail
    refine HC.out.mono ?_; rintro e w2 ⟨b, rfl, hb, k2⟩
    have K2 := Lib.hid (K0.out.trans k2)
    have HB := Lib.hid hb
    clear hb
    cases b with
    | true =>
      go_wp2_with fail
      go_ret
      exact eqSays_no (fun hml => by
        obtain ⟨a, ha, hna⟩ := HB.out.1 (by simp)
        rw [hml.2.1 a ha] at hna; cases hna) K2.out
    | false =>
      go_wp2_with fail
      refine (HR.out _ K2.out).mono ?_; rintro e w3 ⟨q, rfl, hq, k3⟩
      have K3 := Lib.hid (K2.out.trans k3)
      have HQ := Lib.hid hq
      clear hq
      go_wp2_with fail
      go_ret
      refine ⟨q, rfl, ⟨fun hq1 => ⟨hlen, fun a ha => ?_, HQ.out.1 hq1⟩, fun hml => HQ.out.2 hml.2.2⟩, K3.out⟩
      cases g : mayR (a.told k)
      · have := HB.out.2 ⟨a, ha, by simp [g]⟩
        cases this
      · rfl
  · have i1 : ¬ (l.length : Int) ≤ most := by omega
    go_enter Tryz.func167, Tryz.ntmps167
    go_wp2_with fail
    go_ret
    exact eqSays_no (fun hml => hlen hml.1) K0.out
end Go.Proofs.YtdkimcnlhmhpgaaGreat
