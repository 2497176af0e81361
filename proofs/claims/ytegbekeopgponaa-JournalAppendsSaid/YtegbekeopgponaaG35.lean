/- Layer 13 (journal): bytes appended, as the program does it, over whatever holds the disk. -/
import Derived.Test.YtegbekeopgponaaG04
import Derived.Test.YtegbekeopgponaaG33
import Derived.Test.YtegbekeopgponaaG34
namespace Go.Proofs.Ytegbekeopgponaa
open Go.RowKit
set_option linter.unusedVariables false
set_option linter.unusedSimpArgs false

set_option maxRecDepth 100000 in
set_option maxHeartbeats 1000000 in
theorem jfitsG {Inv : DK → World → Prop} {b : Nat} (O : DOps Inv b) {w : World} {d : DK} (h : Inv d w) (j u : Int) (hj : (Lit.int .i64 j).wf = true) (hu : (Lit.int .i64 u).wf = true) :
    Calls Try.prog 53 #[.pointer (some ⟨b, 0, none⟩), .int .i64 j, .int .i64 u] w fun e w' => e = .returned (.int .i64 (fitCode d.stand.length j u)) ∧ w = w' := by
  obtain ⟨n1, n2⟩ := O.len h
  obtain ⟨j1, j2⟩ := bd64 hj
  obtain ⟨u1, u2⟩ := bd64 hu
  have hd := O.lenC h
  generalize d.stand.length = n at *
  have HD := Lib.hid hd
  have g0 : ((n : Int) == 0) = false := by rw [beq_eq_false_iff_ne]; omega
  clear hd hj hu h
  rcases (by omega : j < 1 ∨ (1 ≤ j ∧ (n : Int) - 2 < j) ∨ (1 ≤ j ∧ j ≤ (n : Int) - 2 ∧ u < 0) ∨ (1 ≤ j ∧ j ≤ (n : Int) - 2 ∧ 0 ≤ u ∧ 128 * j < u) ∨ (1 ≤ j ∧ j ≤ (n : Int) - 2 ∧ 0 ≤ u ∧ u ≤ 128 * j)) with c1 | ⟨c1, c2⟩ | ⟨c1, c2, c3⟩ | ⟨c1, c2, c3, c4⟩ | ⟨c1, c2, c3, c4⟩
  · have e : fitCode n j u = 1 := by unfold fitCode; rw [if_pos (by omega)]
    rw [e]; clear e
    go_enter Try.func53, Try.ntmps53
    go_wp2_with fail
    refine HD.out.mono ?_; rintro e w' ⟨rfl, rfl⟩
    go_wp2_with fail
    go_ret
    exact ⟨rfl, rfl⟩
  · have e : fitCode n j u = 1 := by unfold fitCode; rw [if_pos (by omega)]
    rw [e]; clear e
    go_enter Try.func53, Try.ntmps53
    go_wp2_with fail
    refine HD.out.mono ?_; rintro e w' ⟨rfl, rfl⟩
    go_wp2_with fail
    refine HD.out.mono ?_; rintro e w' ⟨rfl, rfl⟩
    go_wp2_with fail
    go_ret
    exact ⟨rfl, rfl⟩
  · have e : fitCode n j u = 1 := by unfold fitCode; rw [if_pos (by omega)]
    rw [e]; clear e
    go_enter Try.func53, Try.ntmps53
    go_wp2_with fail
    refine HD.out.mono ?_; rintro e w' ⟨rfl, rfl⟩
    go_wp2_with fail
    refine HD.out.mono ?_; rintro e w' ⟨rfl, rfl⟩
    go_wp2_with fail
    go_ret
    exact ⟨rfl, rfl⟩
  · have e : fitCode n j u = 1 := by unfold fitCode; rw [if_pos (by omega)]
    have hm : j * 128 < u := by omega
    have hm2 : j * 128 ≤ 2000000 := by omega
    have hm3 : 0 ≤ j * 128 := by omega
    rw [e]; clear e
    go_enter Try.func53, Try.ntmps53
    go_wp2_with fail
    refine HD.out.mono ?_; rintro e w' ⟨rfl, rfl⟩
    go_wp2_with fail
    refine HD.out.mono ?_; rintro e w' ⟨rfl, rfl⟩
    go_wp2_with fail
    go_ret
    exact ⟨rfl, rfl⟩
  · have e : fitCode n j u = 0 := by unfold fitCode; rw [if_neg (by omega)]
    have hm : u ≤ j * 128 := by omega
    have hm2 : j * 128 ≤ 2000000 := by omega
    have hm3 : 0 ≤ j * 128 := by omega
    rw [e]; clear e
    go_enter Try.func53, Try.ntmps53
    go_wp2_with fail
    refine HD.out.mono ?_; rintro e w' ⟨rfl, rfl⟩
    go_wp2_with fail
    refine HD.out.mono ?_; rintro e w' ⟨rfl, rfl⟩
    go_wp2_with fail
    go_ret
    exact ⟨rfl, rfl⟩
def strOf : Value → Nat
  | .string x => x.size
  | _ => 0
/-- bytes appended: the disk then, and the error. -/
def appendD (d : DK) (j u : Int) (s : List UInt8) : DK × Int :=
  if fitCode d.stand.length j u ≠ 0 then (d, 1) else if 128 * j - u < s.length then (d, 100) else if d.down = true then (d, 90) else if s = [] then (d, 0) else appAll d (2 + u.toNat / 128) ((seen d (2 + u.toNat / 128)).take (u.toNat % 128) ++ s)
def appendN (d : DK) (j u : Int) (s : List UInt8) : Int := if (appendD d j u s).2 = 0 then u + s.length else 0
def AppSays (Inv : DK → World → Prop) (d : DK) (j u : Int) (s : List UInt8) (w : World) (e : Ending) (w' : World) : Prop :=
  e = .returned (.tuple #[.int .i64 (appendN d j u s), .int .i64 (appendD d j u s).2]) ∧ Inv (appendD d j u s).1 w'
theorem appSays_of {Inv : DK → World → Prop} {d d' : DK} {j u : Int} {s : List UInt8} {C n : Int} {w w' : World} (h : appendD d j u s = (d', C)) (hn : n = if C = 0 then u + s.length else 0) (hI : Inv d' w') : AppSays Inv d j u s w (.returned (.tuple #[.int .i64 n, .int .i64 C])) w' := by
  unfold AppSays appendN
  rw [h, hn]
  exact ⟨rfl, hI⟩
set_option maxRecDepth 100000 in
set_option maxHeartbeats 4000000 in
theorem jappend {Inv : DK → World → Prop} {b : Nat} (O : DOps Inv b) {w : World} {d : DK} (h : Inv d w) (j u : Int) (s : List UInt8) (hj : (Lit.int .i64 j).wf = true) (hu : (Lit.int .i64 u).wf = true) (hs : s.length ≤ 4000) (ho : d.ops ≤ 40000) (hw : d.waits.length ≤ 5000) :
    Calls Try.prog 16 #[.pointer (some ⟨b, 0, none⟩), .int .i64 j, .int .i64 u, .string (bs s)] w (AppSays Inv d j u s w) := by
  have hf := jfitsG O h j u hj hu
  have hsz : (bs s).size = s.length := bs_size s
  by_cases hc : fitCode d.stand.length j u = 0
  · obtain ⟨c1, c2, c3, c4⟩ := fit_ok hc
    obtain ⟨n1, n2⟩ := O.len h
    have hm2 : j * 128 ≤ 2000000 := by omega
    have hm3 : 0 ≤ j * 128 := by omega
    have hs' : (s.length : Int) ≤ 4000 := by omega
    rw [hc] at hf
    have HF := Lib.hid hf
    clear hf hj hu
    by_cases hfull : 128 * j - u < s.length
    · have hr := appSays_of (Inv := Inv) (w := w) (n := 0) (show appendD d j u s = (d, 100) by unfold appendD; rw [if_neg (by omega), if_pos hfull]) (by rw [if_neg (by omega)]) h
      have HR := Lib.hid hr
      have hfl : j * 128 - u < s.length := by omega
      clear hr hc h hfull
      go_enter Try.func16, Try.ntmps16
      go_wp2_with fail
      refine HF.out.mono ?_; rintro e w' ⟨rfl, rfl⟩
      go_wp2_with fail
      go_ret2
      exact HR.out
    · have hfl : (s.length : Int) ≤ j * 128 - u := by omega
      have hd := O.downC h
      cases hdn : d.down
      · rw [hdn] at hd
        have HD := Lib.hid hd
        rcases name_cases s with ⟨m1, m2, m3, m4⟩ | ⟨m1, m2, m3⟩
        · subst m1
          have hr := appSays_of (Inv := Inv) (w := w) (n := u) (show appendD d j u [] = (d, 0) by unfold appendD; rw [if_neg (by omega), if_neg hfull, if_neg (by rw [hdn]; simp), if_pos rfl]) (by simp) h
          have HR := Lib.hid hr
          clear hr hc h hfull hd hdn
          go_enter Try.func16, Try.ntmps16
          go_wp2_with fail
          refine HF.out.mono ?_; rintro e w' ⟨rfl, rfl⟩
          go_wp2_with fail
          refine HD.out.mono ?_; rintro e w' ⟨rfl, rfl⟩
          go_wp2_with fail
          go_ret2
          exact HR.out
        · obtain ⟨un, rfl⟩ := Int.eq_ofNat_of_zero_le c3
          have hq : (un : Int) / 128 = ((un / 128 : Nat) : Int) := by omega
          have hrm : (un : Int) % 128 = ((un % 128 : Nat) : Int) := by omega
          have hat : 2 + un / 128 < d.stand.length := by omega
          have hrd := O.readC (2 + ((un / 128 : Nat) : Int)) h
          have e1 : atOf d (2 + ((un / 128 : Nat) : Int)) = 0 := by unfold atOf; rw [hdn, if_neg (by simp), if_neg (by omega)]
          have e2 : rVal d (2 + ((un / 128 : Nat) : Int)) = seen d (2 + un / 128) := by
            unfold rVal
            rw [if_pos e1]
            congr 1
          rw [e1, e2] at hrd
          have hsl := seen_len (O.fit h) hat
          have hR : appendD d j un s = appAll d (2 + un / 128) ((seen d (2 + un / 128)).take (un % 128) ++ s) := by
            unfold appendD
            rw [if_neg (by omega), if_neg hfull, if_neg (by rw [hdn]; simp), if_neg (by intro e; rw [e] at m3; simp at m3), Int.toNat_natCast]
          have hex : Hid ((bs (seen d (2 + un / 128))).extract 0 (un % 128) ++ bs s = bs ((seen d (2 + un / 128)).take (un % 128) ++ s)) := by
            show _ = _; rw [bs_extract, bs_append]; simp
          have hrl : ((seen d (2 + un / 128)).take (un % 128) ++ s).length ≤ 4128 := by
            rw [List.length_append]
            have := List.length_take_le (un % 128) (seen d (2 + un / 128))
            omega
          have hex2 : ((bs (seen d (2 + un / 128))).extract 0 (un % 128)).size ≤ 128 := by rw [bs_extract, bs_size]; simp; omega
          have y0 : (bs (seen d (2 + un / 128))).size = 128 := by rw [bs_size, hsl]
          have y3 : un % 128 < 128 := Nat.mod_lt _ (by omega)
          have HRD := Lib.hid hrd
          have HAP := Lib.hid hR
          have HI := Lib.hid h
          have hau : 2 + un / 128 ≤ 8192 := by omega
          clear hrd e1 e2 hsl hR hc h hfull hd hdn hat
          generalize (seen d (2 + un / 128)).take (un % 128) ++ s = R0 at *
          generalize bs (seen d (2 + un / 128)) = SE at *
          generalize un % 128 = um at *
          generalize un / 128 = ud at *
          have i1 : (um : Int) < 128 := by omega
          have i2 : (ud : Int) ≤ 8192 := by omega
          have i3 : (um : Int) ≤ SE.size := by omega
          have yy : (SE.extract 0 um ++ bs s).size = (SE.extract 0 um).size + (bs s).size := ByteArray.size_append
          have hdd : decide (j * 128 - (un : Int) < (s.length : Int)) = false := decide_eq_false (by omega)
          go_enter Try.func16, Try.ntmps16
          go_wp2_with fail
          refine HF.out.mono ?_; rintro e w' ⟨rfl, rfl⟩
          go_wp2_with fail
          refine HD.out.mono ?_; rintro e w' ⟨rfl, rfl⟩
          go_wp2_with fail
          refine HRD.out.mono ?_; rintro e w' ⟨rfl, rfl⟩
          go_wp2_with fail
          go_loopw [11, 14] (fun a t wr => ∃ (d' : DK) (a' : Nat) (rs : List UInt8), a = .int .i64 a' ∧ t = .string (bs rs) ∧ Inv d' wr ∧ appAll d' a' rs = appAll d (2 + ud) R0 ∧ a' + rs.length ≤ 20000 ∧ d'.ops + rs.length ≤ 60000 ∧ d'.waits.length + rs.length ≤ 10000 ∧ rs.length ≤ 4128) (fun _ t _ => strOf t)
          case atStart => exact ⟨d, 2 + ud, R0, by go_num, congrArg Value.string hex.out, HI.out, rfl, by omega, by omega, by omega, hrl⟩
          case round =>
            obtain ⟨d', a', rs, rfl, rfl, hI, hA, b1, b2, b3, b4⟩ := hrel
            have hzr : (bs rs).size = rs.length := bs_size rs
            rcases name_cases rs with ⟨q1, q2, q3, q4⟩ | ⟨q1, q2, q3⟩
            · subst q1
              rw [appAll_nil] at hA
              have hr := appSays_of (Inv := Inv) (w := w) (n := (un : Int) + s.length) (HAP.out.trans hA.symm) (by simp) hI
              have HR := Lib.hid hr
              clear hr hA hI
              go_wp2_with fail
              go_ret2
              exact HR.out
            · have hne : rs ≠ [] := by intro e; rw [e] at q3; simp at q3
              rw [appAll_step hne] at hA
              have hcl := chunk_len rs
              have hwr := fun W (k : Kept [] wr W) => O.writeC (a' : Int) (chunk rs) (O.keep hI k) (by omega) (by omega)
              have hops := wNext_ops d' (a' : Int) (chunk rs)
              have HW := Lib.hid hwr
              have HOPS := Lib.hid hops
              have HAA := Lib.hid hA
              clear hwr hops hA hI hne hcl
              generalize wCode d' (a' : Int) (chunk rs) = C at *
              generalize wNext d' (a' : Int) (chunk rs) = dn at *
              rcases (by omega : rs.length ≤ 128 ∨ 128 < rs.length) with g1 | g1
              · have hmn : min (rs.length : Int) 128 = rs.length := by omega
                have hpf := fun W => packFill ((bs rs).extract 0 rs.length) 128 W (by rw [bs_extract, bs_size]; simp; omega) (by omega)
                have ech : fillL ((bs rs).extract 0 rs.length).data.toList 128 = chunk rs := by
                  rw [bs_extract, bs_data]; unfold chunk
                  rw [List.take_of_length_le g1]; simp
                rw [ech] at hpf
                have HPF := Lib.hid hpf
                have hdr : Hid (ByteArray.empty = bs (rs.drop 128)) := by
                  show _ = _; rw [List.drop_of_length_le g1]; rfl
                clear hpf ech
                have g2 : (rs.length : Int) ≤ 128 := by omega
                go_wp2_with fail
                refine (HPF.out _).mono ?_; rintro e w2 ⟨rfl, k2⟩
                go_wp2_with fail
                refine (HW.out _ k2).mono ?_; rintro e w3 ⟨rfl, hI3⟩
                by_cases hC : C = 0
                · subst hC
                  have hA2 := HAA.out
                  rw [if_pos rfl] at hA2
                  have HA2 := Lib.hid hA2
                  have HI3 := Lib.hid hI3
                  clear hA2 hI3 HAA
                  go_wp2_with fail
                  go_roundw
                  case rel => (try rw [hrm]); ((repeat apply Exists.intro); refine ⟨?_, rfl⟩; exact ⟨dn, a' + 1, rs.drop 128, congrArg (Value.int .i64) (by omega), congrArg Value.string hdr.out, HI3.out, HA2.out, by rw [List.length_drop]; omega, by have := HOPS.out; rw [List.length_drop]; omega, by have := HOPS.out; rw [List.length_drop]; omega, by rw [List.length_drop]; omega⟩)
                  case measure => (show ByteArray.empty.size < (bs rs).size; rw [bs_size]; show 0 < rs.length; omega)
                · have hA2 := HAA.out
                  rw [if_neg hC] at hA2
                  have hr := appSays_of (Inv := Inv) (w := w) (n := 0) (HAP.out.trans hA2.symm) (by rw [if_neg hC]) hI3
                  have HR := Lib.hid hr
                  clear hA2 hr hI3 HAA
                  go_wp2_with fail
                  go_ret2
                  exact HR.out
              · have hmn : min (rs.length : Int) 128 = 128 := by omega
                have hpf := fun W => packFill ((bs rs).extract 0 128) 128 W (by rw [bs_extract, bs_size]; simp; omega) (by omega)
                have ech : fillL ((bs rs).extract 0 128).data.toList 128 = chunk rs := by
                  rw [bs_extract, bs_data]; unfold chunk
                  simp
                rw [ech] at hpf
                have HPF := Lib.hid hpf
                have hdr : Hid ((bs rs).extract 128 rs.length = bs (rs.drop 128)) := by
                  show _ = _; rw [bs_extract, List.take_of_length_le (by rw [List.length_drop]; omega)]
                clear hpf ech
                have g2 : (128 : Int) < rs.length := by omega
                go_wp2_with fail
                refine (HPF.out _).mono ?_; rintro e w2 ⟨rfl, k2⟩
                go_wp2_with fail
                refine (HW.out _ k2).mono ?_; rintro e w3 ⟨rfl, hI3⟩
                by_cases hC : C = 0
                · subst hC
                  have hA2 := HAA.out
                  rw [if_pos rfl] at hA2
                  have HA2 := Lib.hid hA2
                  have HI3 := Lib.hid hI3
                  clear hA2 hI3 HAA
                  go_wp2_with fail
                  go_roundw
                  case rel => (try rw [hrm]); ((repeat apply Exists.intro); refine ⟨?_, rfl⟩; exact ⟨dn, a' + 1, rs.drop 128, congrArg (Value.int .i64) (by omega), congrArg Value.string hdr.out, HI3.out, HA2.out, by rw [List.length_drop]; omega, by have := HOPS.out; rw [List.length_drop]; omega, by have := HOPS.out; rw [List.length_drop]; omega, by rw [List.length_drop]; omega⟩)
                  case measure => (show ((bs rs).extract 128 rs.length).size < (bs rs).size; rw [hdr.out, bs_size, bs_size, List.length_drop]; omega)
                · have hA2 := HAA.out
                  rw [if_neg hC] at hA2
                  have hr := appSays_of (Inv := Inv) (w := w) (n := 0) (HAP.out.trans hA2.symm) (by rw [if_neg hC]) hI3
                  have HR := Lib.hid hr
                  clear hA2 hr hI3 HAA
                  go_wp2_with fail
                  go_ret2
                  exact HR.out
      · rw [hdn] at hd
        have HD := Lib.hid hd
        have hr := appSays_of (Inv := Inv) (w := w) (n := 0) (show appendD d j u s = (d, 90) by unfold appendD; rw [if_neg (by omega), if_neg hfull, if_pos hdn]) (by rw [if_neg (by omega)]) h
        have HR := Lib.hid hr
        clear hr hc h hfull hd hdn
        go_enter Try.func16, Try.ntmps16
        go_wp2_with fail
        refine HF.out.mono ?_; rintro e w' ⟨rfl, rfl⟩
        go_wp2_with fail
        refine HD.out.mono ?_; rintro e w' ⟨rfl, rfl⟩
        go_wp2_with fail
        go_ret2
        exact HR.out
  · have hc1 := fit_no hc
    have hr := appSays_of (Inv := Inv) (w := w) (n := 0) (show appendD d j u s = (d, 1) by unfold appendD; rw [if_pos hc]) (by rw [if_neg (by omega)]) h
    rw [hc1] at hf
    have HF := Lib.hid hf
    have HR := Lib.hid hr
    clear hf hr hc hc1 h hj hu
    go_enter Try.func16, Try.ntmps16
    go_wp2_with fail
    refine HF.out.mono ?_; rintro e w' ⟨rfl, rfl⟩
    go_wp2_with fail
    go_ret2
    exact HR.out
end Go.Proofs.Ytegbekeopgponaa

/- Layer 13 (journal): the first bytes of an area loaded, over whatever holds the disk. -/
namespace Go.Proofs.Ytegbekeopgponaa
open Go.RowKit
set_option linter.unusedVariables false
set_option linter.unusedSimpArgs false

set_option maxRecDepth 100000 in
set_option maxHeartbeats 2000000 in
theorem jloadG {Inv : DK → World → Prop} {b : Nat} (O : DOps Inv b) {w : World} {d : DK} (h : Inv d w) (j u : Int) (hj : (Lit.int .i64 j).wf = true) (hu : (Lit.int .i64 u).wf = true) :
    Calls Try.prog 15 #[.pointer (some ⟨b, 0, none⟩), .int .i64 j, .int .i64 u] w fun e w' => e = .returned (.tuple #[.string (bs (loadL d j u)), .int .i64 (loadCode d j u)]) ∧ w = w' := by
  have hf := jfitsG O h j u hj hu
  by_cases hc : fitCode d.stand.length j u = 0
  · obtain ⟨c1, c2, c3, c4⟩ := fit_ok hc
    obtain ⟨n1, n2⟩ := O.len h
    have hd := O.downC h
    rw [hc] at hf
    cases hdn : d.down
    · have el : loadCode d j u = 0 := by unfold loadCode; rw [if_neg (by omega), if_neg (by rw [hdn]; simp)]
      have es : loadL d j u = (readsL d (need u).toNat).take u.toNat := by unfold loadL; rw [if_pos el]
      rw [el, es]
      rw [hdn] at hd
      have hn := pneed u w hu
      have hrd := fun (k : Nat) (hk : 2 + k < d.stand.length) => O.readC (2 + (k : Int)) h
      have hat : ∀ k : Nat, 2 + k < d.stand.length → rVal d (2 + (k : Int)) = seen d (2 + k) ∧ atOf d (2 + (k : Int)) = 0 := fun k hk => by
        have e : atOf d (2 + (k : Int)) = 0 := by
          unfold atOf
          rw [hdn, if_neg (by simp), if_neg (by omega)]
        refine ⟨?_, e⟩
        unfold rVal
        rw [if_pos e]
        congr 1
      have hrd2 : ∀ k : Nat, 2 + k < d.stand.length → Calls Try.prog 55 #[.pointer (some ⟨b, 0, none⟩), .int .i64 (2 + (k : Int))] w fun e w' => e = .returned (.tuple #[.string (bs (seen d (2 + k))), .int .i64 0]) ∧ w = w' := fun k hk => by
        have h1 := hrd k hk
        rw [(hat k hk).1, (hat k hk).2] at h1
        exact h1
      have hln : ∀ k : Nat, 2 + k ≤ d.stand.length → (readsL d k).length = 128 * k := fun k hk => readsL_len (O.fit h) k hk
      have hsl : ∀ k : Nat, 2 + k < d.stand.length → (seen d (2 + k)).length = 128 := fun k hk => seen_len (O.fit h) hk
      have hnd : 0 ≤ need u ∧ need u + 2 ≤ d.stand.length ∧ u ≤ 128 * need u := by
        unfold need
        split
        · omega
        · omega
      obtain ⟨nd, hnd1⟩ := Int.eq_ofNat_of_zero_le hnd.1
      obtain ⟨un, rfl⟩ := Int.eq_ofNat_of_zero_le c3
      rw [hnd1] at hn hnd ⊢
      obtain ⟨_, hnd2, hnd3⟩ := hnd
      rw [Int.toNat_natCast, Int.toNat_natCast]
      have HF := Lib.hid hf
      have HD := Lib.hid hd
      have HN := Lib.hid hn
      have HR := Lib.hid hrd2
      have HL := Lib.hid hln
      have HS := Lib.hid hsl
      clear hf hd hn hrd hrd2 hln hsl hat el es hdn hc h hnd1
      generalize d.stand.length = n at *
      go_enter Try.func15, Try.ntmps15
      go_wp2_with fail
      refine HF.out.mono ?_; rintro e w' ⟨rfl, rfl⟩
      go_wp2_with fail
      refine HD.out.mono ?_; rintro e w' ⟨rfl, rfl⟩
      go_wp2_with fail
      refine HN.out.mono ?_; rintro e w' ⟨rfl, rfl⟩
      go_wp2_with fail
      go_loop [9, 24] (fun t i => ∃ k : Nat, k ≤ nd ∧ i = .int .i64 k ∧ t = .string (bs (readsL d k))) (fun _ i => nd - (intOf i).toNat)
      case atStart => exact ⟨0, by omega, rfl, rfl⟩
      case round =>
        obtain ⟨k, hk, rfl, rfl⟩ := hrel
        have hlk := HL.out k (by omega)
        by_cases hlt : k < nd
        · have hrk := HR.out k (by omega)
          have hsk := HS.out k (by omega)
          have HRK := Lib.hid hrk
          have hstr : Hid (bs (readsL d k) ++ bs (seen d (2 + k)) = bs (readsL d (k + 1))) := by show _ = _; rw [bs_append, readsL_succ]
          have y0 : (bs (readsL d k)).size ≤ 2000000 := by rw [bs_size, hlk]; omega
          have y1 : (bs (seen d (2 + k))).size = 128 := by rw [bs_size, hsk]
          have yy : (bs (readsL d k) ++ bs (seen d (2 + k))).size = (bs (readsL d k)).size + (bs (seen d (2 + k))).size := ByteArray.size_append
          have i1 : (k : Int) < nd := by omega
          have i2 : (nd : Int) ≤ 8192 := by omega
          have HLT := Lib.hid hlt
          clear hrk hsk hlk
          generalize bs (seen d (2 + k)) = S1 at *
          generalize bs (readsL d k) = S0 at *
          go_wp2_with fail
          refine HRK.out.mono ?_; rintro e w' ⟨rfl, rfl⟩
          go_wp2_with fail
          go_round
          case rel => exact ⟨k + 1, HLT.out, by go_num, by rw [← hstr.out]⟩
          case measure => (have hh := HLT.out; simp [intOf]; omega)
        · obtain rfl : k = nd := by omega
          have hex : Hid ((bs (readsL d k)).extract 0 un = bs ((readsL d k).take un)) := by show _ = _; rw [bs_extract]; simp
          have y0 : (bs (readsL d k)).size = 128 * k := by rw [bs_size, hlk]
          have y1 : un ≤ (bs (readsL d k)).size := by omega
          have y2 : (un : Int) ≤ (bs (readsL d k)).size := by omega
          have y3 : (0 : Int) ≤ un := by omega
          generalize bs (readsL d k) = S0 at *
          go_wp2_with fail
          go_ret2
          exact ⟨by rw [← hex.out]; rfl, rfl⟩
    · have el : loadCode d j u = 90 := by unfold loadCode; rw [if_neg (by omega), if_pos hdn]
      have es : loadL d j u = [] := by unfold loadL; rw [if_neg (by omega)]
      rw [el, es]
      rw [hdn] at hd
      have HF := Lib.hid hf
      have HD := Lib.hid hd
      clear hf hd el es hc h
      go_enter Try.func15, Try.ntmps15
      go_wp2_with fail
      refine HF.out.mono ?_; rintro e w' ⟨rfl, rfl⟩
      go_wp2_with fail
      refine HD.out.mono ?_; rintro e w' ⟨rfl, rfl⟩
      go_wp2_with fail
      go_ret2
      exact ⟨rfl, rfl⟩
  · have hc1 := fit_no hc
    have el : loadCode d j u = 1 := by unfold loadCode; rw [if_pos hc]
    have es : loadL d j u = [] := by unfold loadL; rw [if_neg (by omega)]
    rw [el, es]
    rw [hc1] at hf
    have HF := Lib.hid hf
    clear hf el es hc hc1 h
    go_enter Try.func15, Try.ntmps15
    go_wp2_with fail
    refine HF.out.mono ?_; rintro e w' ⟨rfl, rfl⟩
    go_wp2_with fail
    go_ret2
    exact ⟨rfl, rfl⟩
end Go.Proofs.Ytegbekeopgponaa

/- Layer 13 (journal): the two disks as interfaces; the document's bytes loaded. -/
namespace Go.Proofs.Ytegbekeopgponaa
open Go.RowKit
set_option linter.unusedVariables false
set_option linter.unusedSimpArgs false

/-- the program's disk beside the document's. -/
theorem bothOps (W0 : World) (b sb mb lo r rlo : Nat) (rd : DK) : DOps (fun d w => Both W0 w b sb mb lo r rlo d rd) b where
  len := fun h => h.alone.len
  fit := fun h => h.alone.fit
  keep := fun h k => h.keep0 k
  lenC := fun h => dLen b sb mb lo _ _ h.alone.disk
  downC := fun h => dDown b sb mb lo _ _ h.alone.disk
  readC := fun i h => h.alone.read i
  writeC := fun i s h ho hw => (h.dWrite i s ho hw).mono fun e w' hh => ⟨hh.1, hh.2.1⟩
/-- what a caller of the document's disk needs of whatever holds it at r. -/
structure QOps (Inv : DK → World → Prop) (r : Nat) : Prop where
  len : ∀ {d w}, Inv d w → 1 ≤ d.stand.length ∧ d.stand.length ≤ 8192
  fit : ∀ {d w}, Inv d w → Fit d
  keep : ∀ {d w w'}, Inv d w → Kept [] w w' → Inv d w'
  down : ∀ {d w}, Inv d w → w.cell? ⟨r, 4, none⟩ = some (.bool d.down)
  readC : ∀ {d w} (i : Int), Inv d w → Calls Try.prog 76 #[.pointer (some ⟨r, 0, none⟩), .int .i64 i] w fun e w' => e = .returned (.tuple #[.string (bs (rVal d i)), .int .i64 (atOf d i)]) ∧ w = w'
  writeC : ∀ {d w} (i : Int) (s : List UInt8), Inv d w → d.ops < 100000 → d.waits.length < 20000 → Calls Try.prog 69 #[.pointer (some ⟨r, 0, none⟩), .int .i64 i, .string (bs s)] w fun e w' => e = .returned (.int .i64 (wCode d i s)) ∧ Inv (wNext d i s) w'
theorem RAt.down4 {w : World} {r lo : Nat} {d : DK} (h : RAt w r lo d) : w.cell? ⟨r, 4, none⟩ = some (.bool d.down) := by
  obtain ⟨p, c, p', c', _, _, _, _, c4, _⟩ := h.five
  exact c4
theorem RAt.lens {w : World} {r lo : Nat} {d : DK} (h : RAt w r lo d) : 1 ≤ d.stand.length ∧ d.stand.length ≤ 8192 := by
  obtain ⟨sv, wv, o, hs, hw, h1, h2, h3, h4, _⟩ := h
  exact ⟨h3, h4⟩
/-- the document's disk beside the program's. -/
theorem bothQ (W0 : World) (b sb mb lo r rlo : Nat) (d : DK) : QOps (fun rd w => Both W0 w b sb mb lo r rlo d rd) r where
  len := fun h => h.ref.lens
  fit := fun h => h.rfit
  keep := fun h k => h.keep0 k
  down := fun h => h.ref.down4
  readC := fun i h => h.qRead i
  writeC := fun i s h ho hw => (h.qWrite i s ho hw).mono fun e w' hh => ⟨hh.1, hh.2.1⟩
end Go.Proofs.Ytegbekeopgponaa
