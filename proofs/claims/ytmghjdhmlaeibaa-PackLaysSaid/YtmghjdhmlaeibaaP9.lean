/- PackLays, walked. -/
import Derived.Test.YtmghjdhmlaeibaaP8
namespace Go.Proofs.Ytmghjdhmlaeibaa
open Go.RowKit
set_option linter.unusedVariables false
set_option linter.unusedSimpArgs false

theorem lenL_le40 (l : List ByteArray) (h : l.length ≤ 40) (hs : ∀ s ∈ l, s.size ≤ 500) : lenL l ≤ 40000 := by
  have : (l.map fun s => 4 + s.size).sum ≤ l.length * 504 := by
    clear h
    induction l with
    | nil => simp
    | cons a l ih =>
      have h1 := hs a (by simp)
      have h2 := ih (fun x hx => hs x (by simp [hx]))
      simp only [List.map_cons, List.sum_cons, List.length_cons]; omega
  unfold lenL; omega

set_option maxRecDepth 100000 in
set_option maxHeartbeats 1000000 in
theorem lays_walk (a : Int) (s : ByteArray) (v : Value) (l : List ByteArray) (w : World) (ha : (Lit.int .u64 a).wf = true) (_hs : s.size ≤ maxLen) (hl : StrsAt w v l) (hz : ∀ s ∈ l, s.size ≤ maxLen) :
    Calls Try.prog 6 #[.int .u64 a, .string s, v] w fun e w' => e = .returned (.bool true) ∧ Below w.heap.size w w' := by
  obtain ⟨n, rfl⟩ : ∃ n : Nat, a = n := ⟨a.toNat, by
    have := ha; simp [Lit.wf] at this; have e1 : IntKind.u64.min = 0 := rfl; omega⟩
  have hn : n < 18446744073709551616 := by
    have := ha; simp [Lit.wf] at this; have e1 : IntKind.u64.max = 18446744073709551615 := rfl; omega
  have hS := StrsIn.of hl
  clear hl
  by_cases h1 : (500 : Int) < s.size
  · go_enter Try.func6, Try.ntmps6
    go_wp2_with fail
    refine (pawake _).mono ?_; rintro e w1 ⟨rfl, k⟩
    go_wp2_with fail
    go_ret
    exact ⟨rfl, k.below⟩
  · obtain ⟨p, c, rfl⟩ := hS.shape
    have HS := Lib.hid hS
    have hL := light_walk _ l _ _ w hS
    clear hS
    go_enter Try.func6, Try.ntmps6
    go_wp2_with fail
    refine hL.mono ?_; rintro e w1 ⟨⟨b, rfl, hb⟩, k1⟩
    cases b
    · clear hb
      go_wp2_with fail
      refine (pawake _).mono ?_; rintro e w2 ⟨rfl, k⟩
      go_wp2_with fail
      go_ret
      exact ⟨rfl, (k1.trans k).below⟩
    · obtain ⟨hl40, hl500⟩ := hb rfl
      clear hb hL
      have hS1 : StrsIn w1 (.slice p l.length c) l 0 w.heap.size := HS.out.kept k1 (by simp)
      have HS1 := Lib.hid hS1
      clear HS hS1
      have w8 : IntKind.u8.wrap (n : Int) = ((n % 256 : Nat) : Int) := by rw [IntKind.wrap_u8]; omega
      have w16 : IntKind.u16.wrap (n : Int) = ((n % 65536 : Nat) : Int) := by rw [IntKind.wrap_u16]; omega
      have w32 : IntKind.u32.wrap (n : Int) = ((n % 4294967296 : Nat) : Int) := by rw [IntKind.wrap_u32]; omega
      have lenl := lenL_le40 l hl40 hl500
      have tlen : (textL s.data.toList).length ≤ 504 := by rw [textL_len, size_data]; omega
      have llen : (listL (l.map fun s => s.data.toList)).length ≤ 40000 := by rw [← lenL_bs, bs_map_data]; exact lenl
      have p1 : ∀ w, Calls Try.prog 32 #[.int .u8 ((n % 256 : Nat) : Int)] w fun e w' => e = .returned (.string (bs (numL n 1))) ∧ Kept [] w w' := fun w => by
        have h := packU8 (n % 256) w (Nat.mod_lt _ (by decide))
        rw [show numL (n % 256) 1 = numL n 1 from numL_mod n 1] at h
        exact h
      have q1 : ∀ w, Calls Try.prog 36 #[.int .u64 (n : Int), .int .i64 1] w fun e w' => e = .returned (.string (bs (numL n 1))) ∧ Kept [] w w' := fun w => rNum 1 n w hn (by decide)
      have z1 : (bs (numL n 1)).size = 1 := by rw [bs_size, numL_len]
      have p2 : ∀ w, Calls Try.prog 33 #[.int .u16 ((n % 65536 : Nat) : Int)] w fun e w' => e = .returned (.string (bs (numL n 2))) ∧ Kept [] w w' := fun w => by
        have h := packU16 (n % 65536) w (Nat.mod_lt _ (by decide))
        rw [show numL (n % 65536) 2 = numL n 2 from numL_mod n 2] at h
        exact h
      have q2 : ∀ w, Calls Try.prog 36 #[.int .u64 (n : Int), .int .i64 2] w fun e w' => e = .returned (.string (bs (numL n 2))) ∧ Kept [] w w' := fun w => rNum 2 n w hn (by decide)
      have z2 : (bs (numL n 2)).size = 2 := by rw [bs_size, numL_len]
      have p4 : ∀ w, Calls Try.prog 34 #[.int .u32 ((n % 4294967296 : Nat) : Int)] w fun e w' => e = .returned (.string (bs (numL n 4))) ∧ Kept [] w w' := fun w => by
        have h := packU32 (n % 4294967296) w (Nat.mod_lt _ (by decide))
        rw [show numL (n % 4294967296) 4 = numL n 4 from numL_mod n 4] at h
        exact h
      have q4 : ∀ w, Calls Try.prog 36 #[.int .u64 (n : Int), .int .i64 4] w fun e w' => e = .returned (.string (bs (numL n 4))) ∧ Kept [] w w' := fun w => rNum 4 n w hn (by decide)
      have z4 : (bs (numL n 4)).size = 4 := by rw [bs_size, numL_len]
      have p8 : ∀ w, Calls Try.prog 35 #[.int .u64 (n : Int)] w fun e w' => e = .returned (.string (bs (numL n 8))) ∧ Kept [] w w' := fun w => packU64 n w hn
      have q8 : ∀ w, Calls Try.prog 36 #[.int .u64 (n : Int), .int .i64 8] w fun e w' => e = .returned (.string (bs (numL n 8))) ∧ Kept [] w w' := fun w => rNum 8 n w hn (by decide)
      have z8 : (bs (numL n 8)).size = 8 := by rw [bs_size, numL_len]
      have pt : ∀ w, Calls Try.prog 19 #[.string s] w fun e w' => e = .returned (.string (bs (textL s.data.toList))) ∧ Kept [] w w' := fun w => packText s w (by omega)
      have qt : ∀ w, Calls Try.prog 37 #[.string s] w fun e w' => e = .returned (.string (bs (textL s.data.toList))) ∧ Kept [] w w' := fun w => rText s w (by omega)
      have zt : (bs (textL s.data.toList)).size ≤ 504 := by rw [bs_size]; exact tlen
      have zl : (bs (listL (l.map fun s => s.data.toList))).size ≤ 40000 := by rw [bs_size]; exact llen
      have pl : ∀ w2, Kept [] w1 w2 → Calls Try.prog 16 #[.slice p l.length c] w2 fun e w' => e = .returned (.string (bs (listL (l.map fun s => s.data.toList)))) ∧ Kept [] w2 w' := fun w2 k => packList _ l _ _ w2 (HS1.out.kept k (by simp)) (by omega) (fun x hx => by have := hl500 x hx; omega) (by omega)
      have ql : ∀ w2, Kept [] w1 w2 → Calls Try.prog 38 #[.slice p l.length c] w2 fun e w' => e = .returned (.string (bs (listL (l.map fun s => s.data.toList)))) ∧ Kept [] w2 w' := fun w2 k => rList _ l _ _ w2 (HS1.out.kept k (by simp)) (by omega) (fun x hx => by have := hl500 x hx; omega) (by omega)
      have X6 : listR (listL (l.map fun s => s.data.toList)) 0 = (l.map (fun s => s.data.toList), [], 0) := by
        have h := listR_lay (l.map fun s => s.data.toList) [] (by rw [List.length_map]; omega) (fun x hx => by
          obtain ⟨y, hy, rfl⟩ := List.mem_map.1 hx
          have := hl500 y hy; rw [size_data]; omega)
        rwa [List.append_nil] at h
      have X5 := textR_lay s.data.toList (listL (l.map fun s => s.data.toList)) (by rw [size_data]; omega)
      have hcat : bs (numL n 1) ++ bs (numL n 2) ++ bs (numL n 4) ++ bs (numL n 8) ++ bs (textL s.data.toList) ++ bs (listL (l.map fun s => s.data.toList)) = bs (numL n 1 ++ (numL n 2 ++ (numL n 4 ++ (numL n 8 ++ (textL s.data.toList ++ listL (l.map fun s => s.data.toList)))))) := by simp only [bs_append, List.append_assoc]
      generalize hX5 : textL s.data.toList ++ listL (l.map fun s => s.data.toList) = x5 at *
      have X4 := numR_lay n 8 x5
      rw [show n % 256 ^ 8 = n from Nat.mod_eq_of_lt hn] at X4
      generalize hX4 : numL n 8 ++ x5 = x4 at *
      have X3 := numR_lay n 4 x4
      generalize hX3 : numL n 4 ++ x4 = x3 at *
      have X2 := numR_lay n 2 x3
      generalize hX2 : numL n 2 ++ x3 = x2 at *
      have X1 := numR_lay n 1 x2
      generalize hX1 : numL n 1 ++ x2 = x1 at *
      generalize hx6 : listL (l.map fun s => s.data.toList) = x6 at *
      have v1 : ∀ b w, RdAt w b x1 0 → Calls Try.prog 26 #[.pointer (some ⟨b, 0, none⟩)] w fun r w' => r = .returned (.int .u8 ((n % 256 : Nat) : Int)) ∧ RdAt w' b x2 0 ∧ Kept [b] w w' := fun b w h => by
        have h := rdU8 b _ _ w h; rw [X1] at h; exact h
      have v2 : ∀ b w, RdAt w b x2 0 → Calls Try.prog 27 #[.pointer (some ⟨b, 0, none⟩)] w fun r w' => r = .returned (.int .u16 ((n % 65536 : Nat) : Int)) ∧ RdAt w' b x3 0 ∧ Kept [b] w w' := fun b w h => by
        have h := rdU16 b _ _ w h; rw [X2] at h; exact h
      have v4 : ∀ b w, RdAt w b x3 0 → Calls Try.prog 28 #[.pointer (some ⟨b, 0, none⟩)] w fun r w' => r = .returned (.int .u32 ((n % 4294967296 : Nat) : Int)) ∧ RdAt w' b x4 0 ∧ Kept [b] w w' := fun b w h => by
        have h := rdU32 b _ _ w h; rw [X3] at h; exact h
      have v8 : ∀ b w, RdAt w b x4 0 → Calls Try.prog 29 #[.pointer (some ⟨b, 0, none⟩)] w fun r w' => r = .returned (.int .u64 ((n : Nat) : Int)) ∧ RdAt w' b x5 0 ∧ Kept [b] w w' := fun b w h => by
        have h := rdU64 b _ _ w h; rw [X4] at h; exact h
      have vt : ∀ b w, RdAt w b x5 0 → Calls Try.prog 18 #[.pointer (some ⟨b, 0, none⟩)] w fun r w' => r = .returned (.string s) ∧ RdAt w' b x6 0 ∧ Kept [b] w w' := fun b w h => by
        have h := rdText b _ _ w h; rw [X5, bs_of] at h; exact h
      have vl : ∀ b w, RdAt w b x6 0 → Calls Try.prog 14 #[.pointer (some ⟨b, 0, none⟩)] w fun r w' => (∃ v, r = .returned v ∧ StrsIn w' v l w.heap.size w'.heap.size) ∧ RdAt w' b [] 0 ∧ Kept [b] w w' := fun b w h => by
        have h := rdList b _ _ w h (Own.lt h); rw [X6] at h; simp only [bs_map_data] at h; exact h
      have ve : ∀ b w, RdAt w b [] 0 → Calls Try.prog 24 #[.pointer (some ⟨b, 0, none⟩)] w fun r w' => r = .returned (.int .i64 0) ∧ w = w' := fun b w h => rdEnd b [] 0 w h
      have V1 := Lib.hid v1
      have V2 := Lib.hid v2
      have V4 := Lib.hid v4
      have V8 := Lib.hid v8
      have VT := Lib.hid vt
      have VL := Lib.hid vl
      have VE := Lib.hid ve
      have HC := Lib.hid hcat
      have m8 : n % 256 < 256 := Nat.mod_lt _ (by decide)
      have m16 : n % 65536 < 65536 := Nat.mod_lt _ (by decide)
      have m32 : n % 4294967296 < 4294967296 := Nat.mod_lt _ (by decide)
      generalize textL s.data.toList = T at *
      generalize numL n 1 = A1 at *
      generalize numL n 2 = A2 at *
      generalize numL n 4 = A4 at *
      generalize numL n 8 = A8 at *
      generalize n % 256 = n8 at *
      generalize n % 65536 = n16 at *
      generalize n % 4294967296 = n32 at *
      clear v1 v2 v4 v8 vt vl ve hcat X1 X2 X3 X4 X5 X6 hX1 hX2 hX3 hX4 hX5 hx6 lenl tlen llen
      clear ha hz
      have kk := Kept.refl [] w1
      go_wp2_with fail
      refine (p1 _).mono ?_; rintro e w2 ⟨rfl, j⟩
      have kk' := kk.trans j
      clear j kk; have kk := kk'; clear kk'
      go_wp2_with fail
      refine (p2 _).mono ?_; rintro e w3 ⟨rfl, j⟩
      have kk' := kk.trans j
      clear j kk; have kk := kk'; clear kk'
      go_wp2_with fail
      refine (p4 _).mono ?_; rintro e w4 ⟨rfl, j⟩
      have kk' := kk.trans j
      clear j kk; have kk := kk'; clear kk'
      go_wp2_with fail
      refine (p8 _).mono ?_; rintro e w5 ⟨rfl, j⟩
      have kk' := kk.trans j
      clear j kk; have kk := kk'; clear kk'
      go_wp2_with fail
      refine (q1 _).mono ?_; rintro e w6 ⟨rfl, j⟩
      have kk' := kk.trans j
      clear j kk; have kk := kk'; clear kk'
      go_wp2_with fail
      refine (q2 _).mono ?_; rintro e w7 ⟨rfl, j⟩
      have kk' := kk.trans j
      clear j kk; have kk := kk'; clear kk'
      go_wp2_with fail
      refine (q4 _).mono ?_; rintro e w8 ⟨rfl, j⟩
      have kk' := kk.trans j
      clear j kk; have kk := kk'; clear kk'
      go_wp2_with fail
      refine (q8 _).mono ?_; rintro e w9 ⟨rfl, j⟩
      have kk' := kk.trans j
      clear j kk; have kk := kk'; clear kk'
      go_wp2_with fail
      refine (pt _).mono ?_; rintro e w10 ⟨rfl, j⟩
      have kk' := kk.trans j
      clear j kk; have kk := kk'; clear kk'
      go_wp2_with fail
      refine (qt _).mono ?_; rintro e w11 ⟨rfl, j⟩
      have kk' := kk.trans j
      clear j kk; have kk := kk'; clear kk'
      go_wp2_with fail
      refine (pl _ kk).mono ?_; rintro e w12 ⟨rfl, j⟩
      have kk' := kk.trans j
      clear j kk; have kk := kk'; clear kk'
      go_wp2_with fail
      refine (ql _ kk).mono ?_; rintro e w13 ⟨rfl, j⟩
      have kk' := kk.trans j
      clear j kk; have kk := kk'; clear kk'
      clear q1 q2 q4 q8 qt
      go_wp2_with fail
      refine (pt _).mono ?_; rintro e w14 ⟨rfl, j⟩
      have kk' := kk.trans j
      clear j kk; have kk := kk'; clear kk'
      go_wp2_with fail
      refine (pl _ kk).mono ?_; rintro e w15 ⟨rfl, j⟩
      have kk' := kk.trans j
      clear j kk; have kk := kk'; clear kk'
      clear p1 p2 p4 p8 pt pl ql
      go_wp2_with fail
      refine (packRead _ _).mono ?_; rintro e w20 ⟨rfl, hR, j⟩
      rw [HC.out] at hR
      have hR1 : RdAt w20 w15.heap.size x1 0 := hR
      have kR := kk.trans j
      have hle : w1.heap.size ≤ w15.heap.size := kk.size
      have hle0 : w.heap.size ≤ w1.heap.size := k1.size
      clear hR j kk HC
      generalize w15.heap.size = b at *
      go_wp2_with fail
      refine (V1.out _ _ hR1).mono ?_; rintro e w21 ⟨rfl, hR2, j⟩
      have kR' : Kept [] w1 w21 := kR.call j (by simpa using hle)
      clear j kR hR1; have kR := kR'; clear kR'
      go_wp2_with fail
      refine (V2.out _ _ hR2).mono ?_; rintro e w22 ⟨rfl, hR3, j⟩
      have kR' : Kept [] w1 w22 := kR.call j (by simpa using hle)
      clear j kR hR2; have kR := kR'; clear kR'
      go_wp2_with fail
      refine (V4.out _ _ hR3).mono ?_; rintro e w23 ⟨rfl, hR4, j⟩
      have kR' : Kept [] w1 w23 := kR.call j (by simpa using hle)
      clear j kR hR3; have kR := kR'; clear kR'
      go_wp2_with fail
      refine (V8.out _ _ hR4).mono ?_; rintro e w24 ⟨rfl, hR5, j⟩
      have kR' : Kept [] w1 w24 := kR.call j (by simpa using hle)
      clear j kR hR4; have kR := kR'; clear kR'
      go_wp2_with fail
      refine (VT.out _ _ hR5).mono ?_; rintro e w25 ⟨rfl, hR6, j⟩
      have kR' : Kept [] w1 w25 := kR.call j (by simpa using hle)
      clear j kR hR5; have kR := kR'; clear kR'
      go_wp2_with fail
      refine (VL.out _ _ hR6).mono ?_; rintro e w26 ⟨⟨v, rfl, hv⟩, hR7, j⟩
      have kR' : Kept [] w1 w26 := kR.call j (by simpa using hle)
      clear j kR hR6; have kR := kR'; clear kR'
      have hsame := rSame v _ l _ _ _ _ w26 hv (HS1.out.kept kR (by simp)) (by omega)
      obtain ⟨pv, cv, rfl⟩ := hv.shape
      clear hv
      go_wp2_with fail
      refine hsame.mono ?_; rintro e w27 ⟨rfl, j⟩
      have hR8 : RdAt w27 b [] 0 := j.own hR7 (by simp)
      have kR' := kR.trans j
      clear j kR hR7 hsame; have kR := kR'; clear kR'
      go_wp2_with fail
      refine (VE.out _ _ hR8).mono ?_; rintro e w' ⟨rfl, rfl⟩
      go_wp2_with fail
      refine (pawake _).mono ?_; rintro e w28 ⟨rfl, j⟩
      go_wp2_with fail
      go_ret
      exact ⟨rfl, ((k1.trans kR).trans j).below⟩
end Go.Proofs.Ytmghjdhmlaeibaa
