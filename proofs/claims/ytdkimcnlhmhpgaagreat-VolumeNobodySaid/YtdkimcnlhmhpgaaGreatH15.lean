/- -/
import Derived.Test.YtdkimcnlhmhpgaaGreatH06
import Derived.Test.YtdkimcnlhmhpgaaGreatH13
import Derived.Test.YtdkimcnlhmhpgaaGreatH14
import Derived.LoopN
import Derived.Shelf.Abstract
set_option linter.unusedVariables false
set_option linter.unusedSimpArgs false
namespace Go.Proofs.YtdkimcnlhmhpgaaGreat
open Go.RowKit
set_option maxRecDepth 100000 in
set_option maxHeartbeats 1000000 in
theorem jfitsG {Inv : DK → World → Prop} {b : Nat} (O : DOps Inv b) {w : World} {d : DK} (h : Inv d w) (j u : Int) (hj : (Lit.int .i64 j).wf = true) (hu : (Lit.int .i64 u).wf = true) :
  Calls Tryz.prog 180 #[.pointer (some ⟨b, 0, none⟩), .int .i64 j, .int .i64 u] w fun e w' => e = .returned (.int .i64 (fitCode d.stand.length j u)) ∧ w = w' := by
 obtain ⟨n1, n2⟩ := O.len h
 obtain ⟨j1, j2⟩ := bd64 hj
 obtain ⟨u1, u2⟩ := bd64 hu
 have hd := O.lenC h
 generalize d.stand.length = n at *
 have HD := Lib.hid hd
 have g0 : ((n : Int) == 0) = false := by rw [beq_eq_false_iff_ne]; omega
 clear hd hj hu h
 rcases (by omega : j < 1 ∨ (1 ≤ j ∧ (n : Int) - 2 < j) ∨ (1 ≤ j ∧ j ≤ (n : Int) - 2 ∧ u < 0) ∨ (1 ≤ j ∧ j ≤ (n : Int) - 2 ∧ 0 ≤ u ∧ 128 * j < u) ∨ (1 ≤ j ∧ j ≤ (n : Int) - 2 ∧ 0 ≤ u ∧ u ≤ 128 * j)) with c1 | ⟨c1, c2⟩ | ⟨c1, c2, c3⟩ | ⟨c1, c2, c3, c4⟩ | ⟨c1, c2, c3, c4⟩
 ·have e : fitCode n j u = 1 := by unfold fitCode; rw [if_pos (by omega)]
  rw [e]; clear e
  go_enter Tryz.func180, Tryz.ntmps180
  go_wp2_with fail
  refine HD.out.mono ?_; rintro e w' ⟨rfl, rfl⟩
  go_wp2_with fail
  go_ret
  exact ⟨rfl, rfl⟩
 ·have e : fitCode n j u = 1 := by unfold fitCode; rw [if_pos (by omega)]
  rw [e]; clear e
  go_enter Tryz.func180, Tryz.ntmps180
  go_wp2_with fail
  refine HD.out.mono ?_; rintro e w' ⟨rfl, rfl⟩
  go_wp2_with fail
  refine HD.out.mono ?_; rintro e w' ⟨rfl, rfl⟩
  go_wp2_with fail
  go_ret
  exact ⟨rfl, rfl⟩
 ·have e : fitCode n j u = 1 := by unfold fitCode; rw [if_pos (by omega)]
  rw [e]; clear e
  go_enter Tryz.func180, Tryz.ntmps180
  go_wp2_with fail
  refine HD.out.mono ?_; rintro e w' ⟨rfl, rfl⟩
  go_wp2_with fail
  refine HD.out.mono ?_; rintro e w' ⟨rfl, rfl⟩
  go_wp2_with fail
  go_ret
  exact ⟨rfl, rfl⟩
 ·have e : fitCode n j u = 1 := by unfold fitCode; rw [if_pos (by omega)]
  have hm : j * 128 < u := by omega
  have hm2 : j * 128 ≤ 2000000 := by omega
  have hm3 : 0 ≤ j * 128 := by omega
  rw [e]; clear e
  go_enter Tryz.func180, Tryz.ntmps180
  go_wp2_with fail
  refine HD.out.mono ?_; rintro e w' ⟨rfl, rfl⟩
  go_wp2_with fail
  refine HD.out.mono ?_; rintro e w' ⟨rfl, rfl⟩
  go_wp2_with fail
  go_ret
  exact ⟨rfl, rfl⟩
 ·have e : fitCode n j u = 0 := by unfold fitCode; rw [if_neg (by omega)]
  have hm : u ≤ j * 128 := by omega
  have hm2 : j * 128 ≤ 2000000 := by omega
  have hm3 : 0 ≤ j * 128 := by omega
  rw [e]; clear e
  go_enter Tryz.func180, Tryz.ntmps180
  go_wp2_with fail
  refine HD.out.mono ?_; rintro e w' ⟨rfl, rfl⟩
  go_wp2_with fail
  refine HD.out.mono ?_; rintro e w' ⟨rfl, rfl⟩
  go_wp2_with fail
  go_ret
  exact ⟨rfl, rfl⟩
def strOf : Value → Nat
 | .string x => x.size
 | _ => 0
def appendD (d : DK) (j u : Int) (s : List UInt8) : DK × Int :=
 if fitCode d.stand.length j u ≠ 0 then (d, 1) else if 128 * j - u < s.length then (d, 100) else if d.down = true then (d, 90) else if s = [] then (d, 0) else appAll d (2 + u.toNat / 128) ((seen d (2 + u.toNat / 128)).take (u.toNat % 128) ++ s)
def appendN (d : DK) (j u : Int) (s : List UInt8) : Int := if (appendD d j u s).2 = 0 then u + s.length else 0
def AppSays (Inv : DK → World → Prop) (d : DK) (j u : Int) (s : List UInt8) (w : World) (e : Ending) (w' : World) : Prop :=
 e = .returned (.tuple #[.int .i64 (appendN d j u s), .int .i64 (appendD d j u s).2]) ∧ Inv (appendD d j u s).1 w'
theorem appSays_of {Inv : DK → World → Prop} {d d' : DK} {j u : Int} {s : List UInt8} {C n : Int} {w w' : World} (h : appendD d j u s = (d', C)) (hn : n = if C = 0 then u + s.length else 0) (hI : Inv d' w') : AppSays Inv d j u s w (.returned (.tuple #[.int .i64 n, .int .i64 C])) w' := by
 unfold AppSays appendN
 rw [h, hn]
 exact ⟨rfl, hI⟩
set_option maxRecDepth 100000 in
set_option maxHeartbeats 4000000 in
theorem jappend {Inv : DK → World → Prop} {b : Nat} (O : DOps Inv b) {w : World} {d : DK} (h : Inv d w) (j u : Int) (s : List UInt8) (hj : (Lit.int .i64 j).wf = true) (hu : (Lit.int .i64 u).wf = true) (hs : s.length ≤ 4000) (ho : d.ops ≤ 40000) (hw : d.waits.length ≤ 5000) :
  Calls Tryz.prog 109 #[.pointer (some ⟨b, 0, none⟩), .int .i64 j, .int .i64 u, .string (bs s)] w (AppSays Inv d j u s w) := by
 have hf := jfitsG O h j u hj hu
 have hsz : (bs s).size = s.length := bs_size s
 by_cases hc : fitCode d.stand.length j u = 0
 ·obtain ⟨c1, c2, c3, c4⟩ := fit_ok hc
  obtain ⟨n1, n2⟩ := O.len h
  have hm2 : j * 128 ≤ 2000000 := by omega
  have hm3 : 0 ≤ j * 128 := by omega
  have hs' : (s.length : Int) ≤ 4000 := by omega
  rw [hc] at hf
  have HF := Lib.hid hf
  clear hf hj hu
  by_cases hfull : 128 * j - u < s.length
  ·have hr := appSays_of (Inv := Inv) (w := w) (n := 0) (show appendD d j u s = (d, 100) by unfold appendD; rw [if_neg (by omega), if_pos hfull]) (by rw [if_neg (by omega)]) h
   have HR := Lib.hid hr
   have hfl : j * 128 - u < s.length := by omega
   clear hr hc h hfull
   go_enter Tryz.func109, Tryz.ntmps109
   go_wp2_with fail
   refine HF.out.mono ?_; rintro e w' ⟨rfl, rfl⟩
   go_wp2_with fail
   go_ret2
   exact HR.out
  ·have hfl : (s.length : Int) ≤ j * 128 - u := by omega
   have hd := O.downC h
   cases hdn : d.down
   ·rw [hdn] at hd
    have HD := Lib.hid hd
    rcases name_cases s with ⟨m1, m2, m3, m4⟩ | ⟨m1, m2, m3⟩
    ·subst m1
     have hr := appSays_of (Inv := Inv) (w := w) (n := u) (show appendD d j u [] = (d, 0) by unfold appendD; rw [if_neg (by omega), if_neg hfull, if_neg (by rw [hdn]; simp), if_pos rfl]) (by simp) h
     have HR := Lib.hid hr
     clear hr hc h hfull hd hdn
     go_enter Tryz.func109, Tryz.ntmps109
     go_wp2_with fail
     refine HF.out.mono ?_; rintro e w' ⟨rfl, rfl⟩
     go_wp2_with fail
     refine HD.out.mono ?_; rintro e w' ⟨rfl, rfl⟩
     go_wp2_with fail
     go_ret2
     exact HR.out
    ·obtain ⟨un, rfl⟩ := Int.eq_ofNat_of_zero_le c3
     have hq : (un : Int) / 128 = ((un / 128 : Nat) : Int) := by omega
     have hrm : (un : Int) % 128 = ((un % 128 : Nat) : Int) := by omega
     have hat : 2 + un / 128 < d.stand.length := by omega
     have hrd := O.readC (2 + ((un / 128 : Nat) : Int)) h
     have e1 : atOf d (2 + ((un / 128 : Nat) : Int)) = 0 := by unfold atOf; rw [hdn, if_neg (by simp), if_neg (by omega)]
     have e2 : rVal d (2 + ((un / 128 : Nat) : Int)) = seen d (2 + un / 128) := by
      unfold rVal
      rw [if_pos e1]
      congr 1
     rw [e1, e2] at hrd
     have hsl := seen_len (O.fit h) hat
     have hR : appendD d j un s = appAll d (2 + un / 128) ((seen d (2 + un / 128)).take (un % 128) ++ s) := by
      unfold appendD
      rw [if_neg (by omega), if_neg hfull, if_neg (by rw [hdn]; simp), if_neg (by intro e; rw [e] at m3; simp at m3), Int.toNat_natCast]
     have hex : Hid ((bs (seen d (2 + un / 128))).extract 0 (un % 128) ++ bs s = bs ((seen d (2 + un / 128)).take (un % 128) ++ s)) := by
      show _ = _; rw [bs_extract, bs_append]; simp
     have hrl : ((seen d (2 + un / 128)).take (un % 128) ++ s).length ≤ 4128 := by
      rw [List.length_append]
      have := List.length_take_le (un % 128) (seen d (2 + un / 128))
      omega
     have hex2 : ((bs (seen d (2 + un / 128))).extract 0 (un % 128)).size ≤ 128 := by rw [bs_extract, bs_size]; simp; omega
     have y0 : (bs (seen d (2 + un / 128))).size = 128 := by rw [bs_size, hsl]
     have y3 : un % 128 < 128 := Nat.mod_lt _ (by omega)
     have HRD := Lib.hid hrd
     have HAP := Lib.hid hR
     have HI := Lib.hid h
     have hau : 2 + un / 128 ≤ 8192 := by omega
     clear hrd e1 e2 hsl hR hc h hfull hd hdn hat
     generalize (seen d (2 + un / 128)).take (un % 128) ++ s = R0 at *
     generalize bs (seen d (2 + un / 128)) = SE at *
     generalize un % 128 = um at *
     generalize un / 128 = ud at *
     have i1 : (um : Int) < 128 := by omega
     have i2 : (ud : Int) ≤ 8192 := by omega
     have i3 : (um : Int) ≤ SE.size := by omega
     have yy : (SE.extract 0 um ++ bs s).size = (SE.extract 0 um).size + (bs s).size := ByteArray.size_append
     have hdd : decide (j * 128 - (un : Int) < (s.length : Int)) = false := decide_eq_false (by omega)
     go_enter Tryz.func109, Tryz.ntmps109
     go_wp2_with fail
     refine HF.out.mono ?_; rintro e w' ⟨rfl, rfl⟩
     go_wp2_with fail
     refine HD.out.mono ?_; rintro e w' ⟨rfl, rfl⟩
     go_wp2_with fail
     refine HRD.out.mono ?_; rintro e w' ⟨rfl, rfl⟩
     go_wp2_with fail
     go_loopw [11, 14] (fun a t wr => ∃ (d' : DK) (a' : Nat) (rs : List UInt8), a = .int .i64 a' ∧ t = .string (bs rs) ∧ Inv d' wr ∧ appAll d' a' rs = appAll d (2 + ud) R0 ∧ a' + rs.length ≤ 20000 ∧ d'.ops + rs.length ≤ 60000 ∧ d'.waits.length + rs.length ≤ 10000 ∧ rs.length ≤ 4128) (fun _ t _ => strOf t)
     case atStart => exact ⟨d, 2 + ud, R0, by go_num, congrArg Value.string hex.out, HI.out, rfl, by omega, by omega, by omega, hrl⟩
     case round =>
      obtain ⟨d', a', rs, rfl, rfl, hI, hA, b1, b2, b3, b4⟩ := hrel
      have hzr : (bs rs).size = rs.length := bs_size rs
      rcases name_cases rs with ⟨q1, q2, q3, q4⟩ | ⟨q1, q2, q3⟩
      ·subst q1
       rw [appAll_nil] at hA
       have hr := appSays_of (Inv := Inv) (w := w) (n := (un : Int) + s.length) (HAP.out.trans hA.symm) (by simp) hI
       have HR := Lib.hid hr
       clear hr hA hI
       go_wp2_with fail
       go_ret2
       exact HR.out
      ·have hne : rs ≠ [] := by intro e; rw [e] at q3; simp at q3
       rw [appAll_step hne] at hA
       have hcl := chunk_len rs
       have hwr := fun W (k : Kept [] wr W) => O.writeC (a' : Int) (chunk rs) (O.keep hI k) (by omega) (by omega)
       have hops := wNext_ops d' (a' : Int) (chunk rs)
       have HW := Lib.hid hwr
       have HOPS := Lib.hid hops
       have HAA := Lib.hid hA
       clear hwr hops hA hI hne hcl
       generalize wCode d' (a' : Int) (chunk rs) = C at *
       generalize wNext d' (a' : Int) (chunk rs) = dn at *
       rcases (by omega : rs.length ≤ 128 ∨ 128 < rs.length) with g1 | g1
       ·have hmn : min (rs.length : Int) 128 = rs.length := by omega
        have hpf := fun W => packFill ((bs rs).extract 0 rs.length) 128 W (by rw [bs_extract, bs_size]; simp; omega) (by omega)
        have ech : fillL ((bs rs).extract 0 rs.length).data.toList 128 = chunk rs := by
         rw [bs_extract, bs_data]; unfold chunk
         rw [List.take_of_length_le g1]; simp
        rw [ech] at hpf
        have HPF := Lib.hid hpf
        have hdr : Hid (ByteArray.empty = bs (rs.drop 128)) := by
         show _ = _; rw [List.drop_of_length_le g1]; rfl
        clear hpf ech
        have g2 : (rs.length : Int) ≤ 128 := by omega
        go_wp2_with fail
        refine (HPF.out _).mono ?_; rintro e w2 ⟨rfl, k2⟩
        go_wp2_with fail
        refine (HW.out _ k2).mono ?_; rintro e w3 ⟨rfl, hI3⟩
        by_cases hC : C = 0
        ·subst hC
         have hA2 := HAA.out
         rw [if_pos rfl] at hA2
         have HA2 := Lib.hid hA2
         have HI3 := Lib.hid hI3
         clear hA2 hI3 HAA
         go_wp2_with fail
         go_roundw
         case rel => (try rw [hrm]); ((repeat apply Exists.intro); refine ⟨?_, rfl⟩; exact ⟨dn, a' + 1, rs.drop 128, congrArg (Value.int .i64) (by omega), congrArg Value.string hdr.out, HI3.out, HA2.out, by rw [List.length_drop]; omega, by have := HOPS.out; rw [List.length_drop]; omega, by have := HOPS.out; rw [List.length_drop]; omega, by rw [List.length_drop]; omega⟩)
         case measure => (show ByteArray.empty.size < (bs rs).size; rw [bs_size]; show 0 < rs.length; omega)
        ·have hA2 := HAA.out
         rw [if_neg hC] at hA2
         have hr := appSays_of (Inv := Inv) (w := w) (n := 0) (HAP.out.trans hA2.symm) (by rw [if_neg hC]) hI3
         have HR := Lib.hid hr
         clear hA2 hr hI3 HAA
         go_wp2_with fail
         go_ret2
         exact HR.out
       ·have hmn : min (rs.length : Int) 128 = 128 := by omega
        have hpf := fun W => packFill ((bs rs).extract 0 128) 128 W (by rw [bs_extract, bs_size]; simp; omega) (by omega)
        have ech : fillL ((bs rs).extract 0 128).data.toList 128 = chunk rs := by
         rw [bs_extract, bs_data]; unfold chunk
         simp
        rw [ech] at hpf
        have HPF := Lib.hid hpf
        have hdr : Hid ((bs rs).extract 128 rs.length = bs (rs.drop 128)) := by
         show _ = _; rw [bs_extract, List.take_of_length_le (by rw [List.length_drop]; omega)]
        clear hpf ech
        have g2 : (128 : Int) < rs.length := by omega
        go_wp2_with fail
        refine (HPF.out _).mono ?_; rintro e w2 ⟨rfl, k2⟩
        go_wp2_with fail
        refine (HW.out _ k2).mono ?_; rintro e w3 ⟨rfl, hI3⟩
        by_cases hC : C = 0
        ·subst hC
         have hA2 := HAA.out
         rw [if_pos rfl] at hA2
         have HA2 := Lib.hid hA2
         have HI3 := Lib.hid hI3
         clear hA2 hI3 HAA
         go_wp2_with fail
         go_roundw
         case rel => (try rw [hrm]); ((repeat apply Exists.intro); refine ⟨?_, rfl⟩; exact ⟨dn, a' + 1, rs.drop 128, congrArg (Value.int .i64) (by omega), congrArg Value.string hdr.out, HI3.out, HA2.out, by rw [List.length_drop]; omega, by have := HOPS.out; rw [List.length_drop]; omega, by have := HOPS.out; rw [List.length_drop]; omega, by rw [List.length_drop]; omega⟩)
         case measure => (show ((bs rs).extract 128 rs.length).size < (bs rs).size; rw [hdr.out, bs_size, bs_size, List.length_drop]; omega)
        ·have hA2 := HAA.out
         rw [if_neg hC] at hA2
         have hr := appSays_of (Inv := Inv) (w := w) (n := 0) (HAP.out.trans hA2.symm) (by rw [if_neg hC]) hI3
         have HR := Lib.hid hr
         clear hA2 hr hI3 HAA
         go_wp2_with fail
         go_ret2
         exact HR.out
   ·rw [hdn] at hd
    have HD := Lib.hid hd
    have hr := appSays_of (Inv := Inv) (w := w) (n := 0) (show appendD d j u s = (d, 90) by unfold appendD; rw [if_neg (by omega), if_neg hfull, if_pos hdn]) (by rw [if_neg (by omega)]) h
    have HR := Lib.hid hr
    clear hr hc h hfull hd hdn
    go_enter Tryz.func109, Tryz.ntmps109
    go_wp2_with fail
    refine HF.out.mono ?_; rintro e w' ⟨rfl, rfl⟩
    go_wp2_with fail
    refine HD.out.mono ?_; rintro e w' ⟨rfl, rfl⟩
    go_wp2_with fail
    go_ret2
    exact HR.out
 ·have hc1 := fit_no hc
  have hr := appSays_of (Inv := Inv) (w := w) (n := 0) (show appendD d j u s = (d, 1) by unfold appendD; rw [if_pos hc]) (by rw [if_neg (by omega)]) h
  rw [hc1] at hf
  have HF := Lib.hid hf
  have HR := Lib.hid hr
  clear hf hr hc hc1 h hj hu
  go_enter Tryz.func109, Tryz.ntmps109
  go_wp2_with fail
  refine HF.out.mono ?_; rintro e w' ⟨rfl, rfl⟩
  go_wp2_with fail
  go_ret2
  exact HR.out
end Go.Proofs.YtdkimcnlhmhpgaaGreat

/- -/
namespace Go.Proofs.YtdkimcnlhmhpgaaGreat
open Go.RowKit Go.Maps
structure DA (w : World) (b sb mb lo : Nat) (d : DK) : Prop where
 disk : DiskAt w b sb mb lo d
 fit : Fit d
section
variable {w : World} {b sb mb lo : Nat} {d : DK}
theorem DA.keep0 {w' : World} (h : DA w b sb mb lo d) (k : Kept [] w w') : DA w' b sb mb lo d := ⟨h.disk.keep k (fun x hx => by cases hx), h.fit⟩
theorem DA.b_lt (h : DA w b sb mb lo d) : b < w.heap.size := h.disk.b_lt
theorem DA.sb_lt (h : DA w b sb mb lo d) : sb < w.heap.size := by obtain ⟨_, _, _, os, _⟩ := h.disk; exact os.lt
theorem DA.mb_lt (h : DA w b sb mb lo d) : mb < w.heap.size := by obtain ⟨_, _, _, _, _, hm, _⟩ := h.disk; exact hm.lt
theorem DA.len (h : DA w b sb mb lo d) : 1 ≤ d.stand.length ∧ d.stand.length ≤ 8192 := by
 obtain ⟨_, _, _, _, _, _, _, _, _, _, _, _, h7, h8, _⟩ := h.disk
 exact ⟨h7, h8⟩
theorem DA.read (h : DA w b sb mb lo d) (i : Int) : Calls Tryz.prog 62 #[.pointer (some ⟨b, 0, none⟩), .int .i64 i] w fun e w' => e = .returned (.tuple #[.string (bs (rVal d i)), .int .i64 (atOf d i)]) ∧ w = w' := by
 by_cases hz : atOf d i = 0
 ·obtain ⟨h1, h2, h3⟩ := atOf_zero hz
  obtain ⟨n, rfl⟩ := Int.eq_ofNat_of_zero_le h2
  refine (dRead b sb mb lo d n w h.disk h1 (by omega)).mono fun e w' ⟨h4, h5⟩ => ⟨?_, h5⟩
  rw [h4]; unfold rVal; rw [if_pos hz, hz]; rfl
 ·refine (dRead_no b sb mb lo d i w h.disk hz).mono fun e w' ⟨h4, h5⟩ => ⟨?_, h5⟩
  rw [h4]; unfold rVal; rw [if_neg hz]; rfl
theorem DA.write (h : DA w b sb mb lo d) (i : Int) (s : List UInt8) (ho : d.ops < 100000) (hw : d.waits.length ≤ 10000) :
  Calls Tryz.prog 88 #[.pointer (some ⟨b, 0, none⟩), .int .i64 i, .string (bs s)] w fun e w' => e = .returned (.int .i64 (wCode d i s)) ∧ DA w' b sb mb lo (wNext d i s) ∧ PK [] b sb mb w w' := by
 by_cases hz : atOf d i = 0
 ·by_cases hs : s.length = 128
  ·obtain ⟨h1, h2, h3⟩ := atOf_zero hz
   obtain ⟨n, rfl⟩ := Int.eq_ofNat_of_zero_le h2
   have e1 : wNext d (n : Int) s = writeD d n s := by unfold wNext; rw [if_pos ⟨hz, hs⟩]; rfl
   have e2 : wCode d (n : Int) s = if d.fuse = 0 then 90 else 0 := by unfold wCode; rw [if_neg (by omega), if_neg (by omega)]
   have hf := h.fit.write (n : Int) s
   rw [e1] at hf ⊢
   rw [e2]
   exact (dWriteP b sb mb lo d n s w h.disk h1 (by omega) hs ho hw).mono fun e w' ⟨h4, h5, h6⟩ => ⟨h4, ⟨h5, hf⟩, h6⟩
  ·have e1 : wNext d i s = d := by unfold wNext; rw [if_neg (fun hh => hs hh.2)]
   have e2 : wCode d i s = 1 := by unfold wCode; rw [if_neg (by omega), if_pos hs]
   rw [e1, e2]
   exact (dWrite_len b sb mb lo d i (bs s) w h.disk hz (by rw [bs_size]; exact hs)).mono fun e w' ⟨h4, h5⟩ => ⟨h4, by subst h5; exact h, by subst h5; exact PK.refl _ _ _ _ _⟩
 ·have e1 : wNext d i s = d := by unfold wNext; rw [if_neg (fun hh => hz hh.1)]
  have e2 : wCode d i s = atOf d i := by unfold wCode; rw [if_pos hz]
  rw [e1, e2]
  exact (dWrite_no b sb mb lo d i (bs s) w h.disk hz).mono fun e w' ⟨h4, h5⟩ => ⟨h4, by subst h5; exact h, by subst h5; exact PK.refl _ _ _ _ _⟩
theorem DA.flush (h : DA w b sb mb lo d) (ho : d.ops < 100000) (hw : d.waits.length ≤ 10000) :
  Calls Tryz.prog 39 #[.pointer (some ⟨b, 0, none⟩)] w fun e w' => e = .returned (.int .i64 (fCode d)) ∧ DA w' b sb mb lo (fNext d) ∧ PK [] b sb mb w w' := by
 have hf := h.fit.flush
 unfold fCode fNext at *
 by_cases hd : d.down = true
 ·rw [if_pos hd] at hf ⊢
  rw [if_pos hd]
  exact (dFlush_down b sb mb lo d w h.disk hd).mono fun e w' ⟨h4, h5⟩ => ⟨h4, by subst h5; exact h, by subst h5; exact PK.refl _ _ _ _ _⟩
 ·have hd' : d.down = false := by simpa using hd
  rw [if_neg hd] at hf ⊢
  rw [if_neg hd]
  by_cases h0 : d.fuse = 0
  ·rw [if_pos h0] at hf ⊢
   rw [if_pos h0]
   exact (dFlush_cutP b sb mb lo d w h.disk hd' h0 ho).mono fun e w' ⟨h4, h5, h6⟩ => ⟨h4, ⟨h5, hf⟩, h6⟩
  ·rw [if_neg h0] at hf ⊢
   rw [if_neg h0]
   exact (dFlushP b sb mb lo d w h.disk hd' h0 ho (fun x hx => (h.fit.fine x hx).1) hw).mono fun e w' ⟨h4, h5, h6⟩ => ⟨h4, ⟨h5, hf⟩, h6⟩
end
theorem daNew (n : Nat) (w : World) (h1 : 1 ≤ n) (h2 : n ≤ 8192) :
  Calls Tryz.prog 9 #[.int .i64 n] w fun e w' => ∃ b sb mb lo, e = .returned (.tuple #[.pointer (some ⟨b, 0, none⟩), .int .i64 0]) ∧ DA w' b sb mb lo (newD (List.replicate n zeroS)) ∧ Kept [] w w' ∧ w.heap.size ≤ b ∧ w.heap.size ≤ sb ∧ w.heap.size ≤ mb ∧ w.heap.size ≤ lo :=
 (aNew n w h1 h2).mono fun e w' ⟨b, sb, mb, lo, he, hA⟩ => ⟨b, sb, mb, lo, he, ⟨hA.disk, hA.fit⟩, hA.kept, hA.hb, hA.hsb, hA.hmb, hA.hlo⟩
theorem PK.callD {T S : List Nat} {b sb mb : Nat} {w0 w w' : World} (h : PK T b sb mb w0 w) (k : Kept S w w') (hb : b < w0.heap.size) (hl : ∀ x ∈ S, x ∈ T ∨ w0.heap.size ≤ x) (hbS : b ∉ S) : PK T b sb mb w0 w' :=
 ⟨k.os.trans h.os, k.tape.trans h.tape, k.output.trans h.output, Nat.le_trans h.size k.size, fun i hi h1 h2 h3 h4 h5 => (k.block i (Nat.lt_of_lt_of_le hi h.size) (fun hx => by
  rcases hl i hx with h6 | h6
  ·exact h1 h6
  ·omega)).trans (h.block i hi h1 h2 h3 h4 h5), fun i hi => h.wb i ((WB.of_cell (k.cell (a := ⟨b, 1, none⟩) (Nat.lt_of_lt_of_le hb h.size) hbS)).1 hi)⟩
theorem PK.call1 {T : List Nat} {b sb mb D : Nat} {w0 w w' : World} (h : PK T b sb mb w0 w) (k : Kept [D] w w') (hb : b < w0.heap.size) (hl : w0.heap.size ≤ D) : PK T b sb mb w0 w' :=
 h.callD k hb (fun y hy => by
  simp only [List.mem_cons, List.not_mem_nil, or_false] at hy
  exact Or.inr (by omega)) (fun hy => by
  simp only [List.mem_cons, List.not_mem_nil, or_false] at hy
  omega)
def DInv (w0 : World) (b sb mb lo : Nat) (d : DK) (w : World) : Prop := DA w b sb mb lo d ∧ PK [] b sb mb w0 w
theorem DA.dinv {w : World} {b sb mb lo : Nat} {d : DK} (h : DA w b sb mb lo d) : DInv w b sb mb lo d w := ⟨h, PK.refl _ _ _ _ _⟩
theorem dinvOps (w0 : World) (b sb mb lo : Nat) : DOps (DInv w0 b sb mb lo) b where
 len := fun h => h.1.len
 fit := fun h => h.1.fit
 keep := fun h k => ⟨h.1.keep0 k, h.2.trans (k.pk0 h.1.b_lt)⟩
 lenC := fun h => dLen b sb mb lo _ _ h.1.disk
 downC := fun h => dDown b sb mb lo _ _ h.1.disk
 readC := fun i h => h.1.read i
 writeC := fun i s h ho hw => (h.1.write i s ho hw).mono fun e w' hh => ⟨hh.1, hh.2.1, h.2.trans hh.2.2⟩
theorem dinvB {w0 : World} {b sb mb lo : Nat} {d0 : DK} (h0 : DA w0 b sb mb lo d0) : BOps (DInv w0 b sb mb lo) b w0.heap.size where
 ops := dinvOps w0 b sb mb lo
 writeB := fun i s h ho hw => (h.1.write i s ho hw).mono fun e w' hh => ⟨hh.1, ⟨hh.2.1, h.2.trans hh.2.2⟩, ((hh.2.2.dkept h.1.disk).both b).asideW h0.b_lt h0.sb_lt h0.mb_lt h0.b_lt⟩
 putD := fun {d w w' D x} h ho k hl => ⟨⟨h.1.disk.putD ho k, h.1.fit⟩, h.2.call1 k h0.b_lt hl⟩
theorem bputP (v : Value) (l : List (Int × Int)) (s : List UInt8) (lo1 hi1 : Nat) {w : World} {b sb mb lo : Nat} {d : DK} (hD : DA w b sb mb lo d) (h : RunsIn w v l lo1 hi1) (hl : l.length ≤ 1000000) (hwf : ∀ a ∈ l, WfRun a)
  (hs : s.length ≤ 1048576) (ho : d.ops ≤ 90000) (hw : d.waits.length ≤ 1800) :
  Calls Tryz.prog 49 #[.pointer (some ⟨b, 0, none⟩), v, .string (bs s)] w fun e w' => e = .returned (.int .i64 (putX d l s).2) ∧ DA w' b sb mb lo (putX d l s).1 ∧ PK [] b sb mb w w' :=
 (bput (dinvB hD) d v l s lo1 hi1 w hD.dinv (Nat.le_refl _) h hl hwf hs ho hw).mono fun e w' hh => ⟨hh.1, hh.2.1.1, hh.2.1.2⟩
theorem bgetP (v : Value) (l : List (Int × Int)) (size : Int) (lo1 hi1 : Nat) {w : World} {b sb mb lo : Nat} {d : DK} (hD : DA w b sb mb lo d) (h : RunsIn w v l lo1 hi1) (hl : l.length ≤ 1000000) (hwf : ∀ a ∈ l, WfRun a)
  (hsz : (Lit.int .i64 size).wf = true) :
  Calls Tryz.prog 60 #[.pointer (some ⟨b, 0, none⟩), v, .int .i64 size] w fun e w' => e = .returned (.tuple #[.string (bs (getX d l size)), .int .i64 (getCode d l size)]) ∧ Kept [] w w' :=
 bget (dinvOps w b sb mb lo) d v l size lo1 hi1 w hD.dinv h hl hwf hsz
theorem jappendP (j u : Int) (s : List UInt8) {w : World} {b sb mb lo : Nat} {d : DK} (hD : DA w b sb mb lo d) (hj : (Lit.int .i64 j).wf = true) (hu : (Lit.int .i64 u).wf = true) (hs : s.length ≤ 4000) (ho : d.ops ≤ 40000) (hw : d.waits.length ≤ 5000) :
  Calls Tryz.prog 109 #[.pointer (some ⟨b, 0, none⟩), .int .i64 j, .int .i64 u, .string (bs s)] w fun e w' => e = .returned (.tuple #[.int .i64 (appendN d j u s), .int .i64 (appendD d j u s).2]) ∧ DA w' b sb mb lo (appendD d j u s).1 ∧ PK [] b sb mb w w' :=
 (jappend (dinvOps w b sb mb lo) hD.dinv j u s hj hu hs ho hw).mono fun e w' hh => ⟨hh.1, hh.2.1, hh.2.2⟩
end Go.Proofs.YtdkimcnlhmhpgaaGreat

/- -/
namespace Go.Proofs.YtdkimcnlhmhpgaaGreat
open Go.RowKit
set_option maxRecDepth 100000 in
set_option maxHeartbeats 4000000 in
theorem uall (us : List (Nat × Array Value × Array Value)) (cs : Nat → Int) (I : Nat → World → Prop) (g off c : Nat) (w : World) (hn : us.length ≤ 1000)
  (hen : ∀ (i : Nat) (h : i < us.length), Enters Tryz.prog us[i].1)
  (h0 : I 0 w) (hcell : ∀ k W, I k W → ∀ (i : Nat) (h : i < us.length), W.cell? ⟨g, off + i, none⟩ = some (.func (.func us[i].1) us[i].2.1 us[i].2.2))
  (hstep : ∀ (k : Nat) (h : k < us.length) W, I k W → (∀ i, i < k → cs i = 0) → Calls Tryz.prog us[k].1 (us[k].2.1 ++ us[k].2.2) W fun e W' => e = .returned (.int .i64 (cs k)) ∧ I (k + 1) W') :
  Calls Tryz.prog 37 #[.slice (some ⟨g, off, none⟩) us.length c] w fun e w' => (∃ k, k < us.length ∧ (∀ i, i < k → cs i = 0) ∧ cs k ≠ 0 ∧ e = .returned (.int .i64 (cs k)) ∧ I (k + 1) w') ∨ ((∀ i, i < us.length → cs i = 0) ∧ e = .returned (.int .i64 0) ∧ I us.length w') := by
 have HEN := Lib.hid hen
 have HC := Lib.hid hcell
 have HS := Lib.hid hstep
 clear hen hcell hstep
 have hn' : (us.length : Int) ≤ 1000 := by omega
 go_enter Tryz.func37, Tryz.ntmps37
 go_wp2_with fail
 go_step3
 go_wp2_with fail
 go_step3
 go_wp2_with fail
 refine wp_loop_rounds 1 ?_
 rw [rounds_succ]
 go_wp2_with fail
 go_loopw [3, 8] (fun e i wr => ∃ k : Nat, k ≤ us.length ∧ i = .int .i64 k ∧ e = .int .i64 0 ∧ (∀ j, j < k → cs j = 0) ∧ I k wr) (fun _ i _ => us.length - (intOf i).toNat)
 case atStart => exact ⟨0, by omega, rfl, rfl, (fun j hj => by omega), h0⟩
 case round =>
  obtain ⟨k, hk, rfl, rfl, hz, hI⟩ := hrel
  by_cases hlt : k < us.length
  ·have hcl := HC.out k _ hI k hlt
   have hst := HS.out k hlt _ hI hz
   have he := HEN.out k hlt
   unfold Enters at he
   have HZ := Lib.hid hz
   have HLT := Lib.hid hlt
   generalize us[k].1 = f at *
   generalize us[k].2.1 = A at *
   generalize us[k].2.2 = B at *
   have hlen : (k : Int) < us.length := by omega
   clear hz hI
   go_wp2_with fail
   refine hst.mono ?_; rintro e w2 ⟨rfl, hI2⟩
   by_cases hc : cs k = 0
   ·have hz' : ∀ j, j < k + 1 → cs j = 0 := fun j hj => by
     rcases Nat.lt_succ_iff_lt_or_eq.1 hj with h | h
     ·exact HZ.out j h
     ·rw [h]; exact hc
    rw [hc]
    have HZ2 := Lib.hid hz'
    clear hz' hc
    go_wp2_with fail
    go_roundw
    case rel => exact ⟨k + 1, HLT.out, by go_num, rfl, HZ2.out, hI2⟩
    case measure => (have hh := HLT.out; simp [intOf]; omega)
   ·have hce : (cs k == 0) = false := by simpa using hc
    have HCN := Lib.hid hc
    clear hc
    go_wp2_with fail
    rw [Exit.noGoto_ret]
    go_ret
    exact Or.inl ⟨k, HLT.out, HZ.out, HCN.out, rfl, hI2⟩
  ·obtain rfl : k = us.length := by omega
   have HZ := Lib.hid hz
   clear hz
   go_wp2_with fail
   rw [Exit.noGoto_ret]
   go_ret
   exact Or.inr ⟨HZ.out, rfl, hI⟩
end Go.Proofs.YtdkimcnlhmhpgaaGreat
