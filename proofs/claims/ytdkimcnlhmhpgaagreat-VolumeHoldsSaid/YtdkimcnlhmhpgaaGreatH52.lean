/- -/
import Derived.Test.YtdkimcnlhmhpgaaGreatH49
import Derived.Test.YtdkimcnlhmhpgaaGreatH51
import Derived.Deep.DeepCutAuto
import Derived.Deep.CutBlock
set_option linter.unusedVariables false
set_option linter.unusedSimpArgs false
namespace Go.Proofs.YtdkimcnlhmhpgaaGreat
open Go.RowKit
theorem kindHolds (k : Int) (h : (Lit.int .u8 k).wf = true) : ∃ n : Nat, k = n ∧ n < 256 := by
 simp only [Lit.wf, Bool.and_eq_true, decide_eq_true_eq] at h
 have h1 : 0 ≤ k := h.1
 have h2 : k ≤ 255 := h.2
 exact ⟨k.toNat, by omega, by omega⟩
structure HoldSt (w : World) (nm dt : List UInt8) (th : Bool) (k : Nat) (wr : World) (B b sb mb lo : Nat) (v : VS) : Prop where
 hv : HV [B] w wr B b sb mb lo v
 inv : VInv (9 + 8 * k) (1300 + 1200 * k) v
 hold : th = true → Holds nm dt v
theorem HoldSt.keep0 {w wr w' : World} {nm dt : List UInt8} {th : Bool} {k B b sb mb lo : Nat} {v : VS} (h : HoldSt w nm dt th k wr B b sb mb lo v) (q : Kept [] wr w') : HoldSt w nm dt th k w' B b sb mb lo v := ⟨h.hv.keep0 q, h.inv, h.hold⟩
set_option maxRecDepth 100000 in
set_option maxHeartbeats 16000000 in
theorem vholdsLaw (sec jr : Int) (a2 a3 : ByteArray) (v4 : Value) (acts : List VAct) (w : World) (h0 : (Lit.int .u8 sec).wf = true) (h1 : (Lit.int .u8 jr).wf = true) (h2 : a2.size ≤ maxLen) (h3 : a3.size ≤ maxLen) (h4 : VActsIn w v4 acts 0 w.heap.size) :
  Calls Tryz.prog 3 #[.int .u8 sec, .int .u8 jr, .string a2, .string a3, v4] w fun e w' => e = .returned (.bool true) ∧ Below w.heap.size w w' := by
 have HA := Lib.hid h4
 obtain ⟨p4, c4, rfl⟩ := RowsOf.shape h4
 have hlm := RowsOf.len h4
 unfold maxLen at h2 h3 hlm
 have HLM := Lib.hid hlm
 simp only [Lit.wf, Bool.and_eq_true, decide_eq_true_eq] at h0 h1
 obtain ⟨nm, hnm⟩ : ∃ n : List UInt8, (if a2.size < 1 ∨ 48 < a2.size then [110] else a2.data.toList) = n := ⟨_, rfl⟩
 obtain ⟨dt, hdt⟩ : ∃ n : List UInt8, (if 2000 < a3.size then a3.data.toList.take 2000 else a3.data.toList) = n := ⟨_, rfl⟩
 have hnl : 1 ≤ nm.length ∧ nm.length ≤ 48 := by
  rw [← hnm]
  split
  ·decide
  ·have : a2.data.toList.length = a2.size := by simp
   omega
 have hdl : dt.length ≤ 2000 := by
  have : a3.data.toList.length = a3.size := by simp
  rw [← hdt]
  split
  ·rw [List.length_take]; omega
  ·omega
 have HNL := Lib.hid hnl
 have HDL := Lib.hid hdl
 have HNM := Lib.hid hnm
 have HDT := Lib.hid hdt
 have H0 := Lib.hid h0
 have H1 := Lib.hid h1
 clear h4 hlm hnl hdl hnm hdt h0 h1
 go_enter Tryz.func3, Tryz.ntmps3
 go_upto_region 1 with fail
 go_cut [30] from 23 to 30 (fun v30 wx => v30 = .bool (decide (a2.size < 1 ∨ 48 < a2.size)) ∧ wx = w)
 case first =>
  rcases (by omega : (a2.size : Int) < 1 ∨ ((1 : Int) ≤ a2.size ∧ (48 : Int) < a2.size) ∨ ((1 : Int) ≤ a2.size ∧ (a2.size : Int) ≤ 48)) with i1 | ⟨i1, i2⟩ | ⟨i1, i2⟩
  ·have HD : Hid (decide (a2.size < 1 ∨ 48 < a2.size) = true) := Lib.hid (decide_eq_true (by omega))
   go_wp2_with fail
   go_meet
   exact ⟨by rw [HD.out], rfl⟩
  ·have HD : Hid (decide (a2.size < 1 ∨ 48 < a2.size) = true) := Lib.hid (decide_eq_true (by omega))
   go_wp2_with fail
   go_meet
   exact ⟨by rw [HD.out], rfl⟩
  ·have HD : Hid (decide (a2.size < 1 ∨ 48 < a2.size) = false) := Lib.hid (decide_eq_false (by omega))
   have HI : Hid (¬ (a2.size : Int) < 1 ∧ ¬ (48 : Int) < a2.size) := Lib.hid (by omega)
   go_wp2_with fail
   go_meet
   exact ⟨by rw [HD.out, decide_eq_false (by have := HI.out; omega), decide_eq_false (by have := HI.out; omega)]; rfl, rfl⟩
 case rest =>
  obtain ⟨hs, hw⟩ := hcut
  subst hs
  have hw' := hw.symm
  clear hw
  subst hw'
  obtain ⟨TB, hTB⟩ : ∃ b : Bool, decide (a2.size < 1 ∨ 48 < a2.size) = b := ⟨_, rfl⟩
  have HTB := Lib.hid hTB
  rw [hTB]
  clear hTB
  go_upto_if 30 with fail
  go_cut [2] (fun v2 wx => v2 = .string (bs nm) ∧ wx = w)
  case first =>
   cases TB
   ·have HE : Hid (a2 = bs nm) := Lib.hid (by
     have h := of_decide_eq_false HTB.out
     have e := HNM.out
     rw [if_neg h] at e
     rw [← e, bs_of])
    go_wp2_with fail
    go_meet
    exact ⟨by rw [← HE.out], rfl⟩
   ·have HE : Hid (nm = [110]) := Lib.hid (by
     have h := of_decide_eq_true HTB.out
     have e := HNM.out
     rw [if_pos h] at e
     exact e.symm)
    go_wp2_with fail
    go_meet
    exact ⟨by rw [HE.out]; rfl, rfl⟩
  case rest =>
   obtain ⟨hs, hw⟩ := hcut
   subst hs
   have hw' := hw.symm
   clear hw
   subst hw'
   clear HTB HNM h2
   go_upto_if 33 with fail
   go_cut [3] (fun v3 wx => v3 = .string (bs dt) ∧ wx = w)
   case first =>
    rcases (by omega : (2000 : Int) < a3.size ∨ ¬ ((2000 : Int) < a3.size)) with i1 | i1
    ·have HE : Hid (a3.extract 0 2000 = bs dt) := Lib.hid (by
      have e := HDT.out
      rw [if_pos (by omega)] at e
      rw [← e, ← bs_of a3, bs_extract]
      rfl)
     go_wp2_with fail
     go_meet
     exact ⟨by rw [HE.out], rfl⟩
    ·have HE : Hid (a3 = bs dt) := Lib.hid (by
      have e := HDT.out
      rw [if_neg (by omega)] at e
      rw [← e, bs_of])
     go_wp2_with fail
     go_meet
     exact ⟨by rw [← HE.out], rfl⟩
   case rest =>
    obtain ⟨hs, hw⟩ := hcut
    subst hs
    have hw' := hw.symm
    clear hw
    subst hw'
    clear HDT h3
    obtain ⟨sn, rfl, hsn⟩ : ∃ sn : Nat, sec = sn ∧ sn < 256 := kindHolds sec (by simpa [Lit.wf] using H0.out)
    obtain ⟨jn, rfl, hjn⟩ : ∃ jn : Nat, jr = jn ∧ jn < 256 := kindHolds jr (by simpa [Lit.wf] using H1.out)
    clear H0 H1
    obtain ⟨n, hn⟩ : ∃ n : Nat, 4 + sn % 80 = n := ⟨_, rfl⟩
    obtain ⟨j, hj⟩ : ∃ j : Nat, 1 + jn % (min (n - 2) 9) = j := ⟨_, rfl⟩
    have hn1 : 4 ≤ n ∧ n ≤ 83 := by omega
    have hj1 : 1 ≤ j ∧ j ≤ n - 2 ∧ j ≤ 9 := by
     have : jn % (min (n - 2) 9) < min (n - 2) 9 := Nat.mod_lt _ (by omega)
     omega
    go_upto_region 6 with fail
    have e1 : (4 : Int) + (sn : Int) % 80 = (n : Int) := by omega
    rw [e1]
    have hnew := daNew n w (by omega) (by omega)
    have HNEW := Lib.hid hnew
    have HE : Hid (1 + (jn : Int) % (min ((n : Int) - 2) 9) = (j : Int)) := Lib.hid (by
     have g1 : ((n : Int) - 2) = ((n - 2 : Nat) : Int) := by omega
     have g2 : min ((n - 2 : Nat) : Int) 9 = ((min (n - 2) 9 : Nat) : Int) := by omega
     rw [← hj, g1, g2]
     norm_cast)
    have HN1 := Lib.hid hn1
    have HJ1 := Lib.hid hj1
    clear hnew e1 hn hj hn1 hj1 hsn
    generalize (sn : Int) = sni at *
    go_wp2_with fail
    refine HNEW.out.mono ?_; rintro e w1 ⟨b, sb, mb, lo, rfl, hD, k1, hb, hsb, hmb, hlo⟩
    have HD := Lib.hid hD
    have HK1 := Lib.hid k1
    have HNUM : Hid (w.heap.size ≤ b ∧ w.heap.size ≤ sb ∧ w.heap.size ≤ mb ∧ w.heap.size ≤ lo) := Lib.hid ⟨hb, hsb, hmb, hlo⟩
    clear hD k1 hb hsb hmb hlo HNEW
    have hq0 : Quiet (newD (List.replicate n zeroS)) := ⟨rfl, by show (-1 : Int) < 0; decide, Fit.new n⟩
    have hlen0 : (newD (List.replicate n zeroS)).stand.length = n := List.length_replicate
    have ho0 : (newD (List.replicate n zeroS)).ops = 0 := rfl
    have hw0 : (newD (List.replicate n zeroS)).waits = [] := rfl
    generalize newD (List.replicate n zeroS) = d0 at *
    obtain ⟨f1, f2, f3⟩ := fmt_ok hq0 (j : Int) (by have := HN1.out; omega)
    have hinv := inv_new hq0 (by rw [ho0]; exact Nat.le_refl _) hw0 (j := (j : Int)) (by have := HJ1.out; omega) (by rw [hlen0]; exact HN1.out.1) (by rw [hlen0]; have := HJ1.out; have := HN1.out; omega) (by rw [hlen0]; have := HN1.out; omega) (by have := HJ1.out; omega)
    rw [hlen0] at hinv
    have hfmt := uformat (T := []) (j : Int) HD.out (fun x hx => by cases hx) (wf_few (by have := HJ1.out; omega)) (by omega) (by rw [hw0]; simp)
    unfold FmtSays at hfmt
    rw [hlen0] at hfmt
    have HFMT := Lib.hid hfmt
    have HF1 := Lib.hid f1
    have HINV := Lib.hid hinv
    clear hq0 ho0 hw0 hlen0 f1 f2 f3 hinv hfmt
    obtain ⟨mm, hmm⟩ : ∃ m : Int, min ((n : Int) - 2) 9 = m := ⟨_, rfl⟩
    have hmm2 : 2 ≤ mm ∧ mm ≤ 9 := by have := HN1.out; omega
    obtain ⟨rr, hrr⟩ : ∃ r : Int, (jn : Int) % mm = r := ⟨_, rfl⟩
    have hrr2 : 0 ≤ rr ∧ rr < 9 := by
     rw [← hrr]
     exact ⟨Int.emod_nonneg _ (by omega), by have := Int.emod_lt_of_pos (jn : Int) (show 0 < mm by omega); omega⟩
    have hrj : 1 + rr = (j : Int) := by rw [← hrr, ← hmm]; exact HE.out
    obtain ⟨hmm3, hmm4⟩ := hmm2
    obtain ⟨hrr3, hrr4⟩ := hrr2
    have hm0 : (mm == 0) = false := by simp; omega
    have hn2 : (n : Int) ≤ 83 := by have := HN1.out; omega
    have hn3 : (4 : Int) ≤ n := by have := HN1.out; omega
    go_upto_region 7 with fail
    clear HE
    go_wp2_with fail
    refine HFMT.out.mono ?_; intro e w2 hs
    rcases hs with ⟨h, _⟩ | ⟨_, hD2, hk2, hs⟩
    ·exfalso
     have := HJ1.out
     have := HN1.out
     omega
    rcases hs with ⟨hc, _⟩ | ⟨_, B, hBge, hoff, hown, rfl⟩
    ·exact absurd HF1.out hc
    have hhv := HV.made (T := [B]) HK1.out HD.out HNUM.out hk2 hD2 hBge List.mem_cons_self (fun x hx => by
     obtain rfl : x = B := by simpa using hx
     exact hown.lt) hoff hown
    have HHV := Lib.hid hhv
    clear hD2 hk2 hBge hoff hown hhv HFMT HD HNUM HK1 hmm hmm3 hmm4 hrr hrr3 hrr4 hrj hm0 hn2 hn3
    have och := Own.new w2 #[.int .i64 3, .int .u32 0, .string (bs nm), .string (bs dt)] 34
    have k3 := (Kept.refl [] w2).alloc (.cells #[.int .i64 3, .int .u32 0, .string (bs nm), .string (bs dt)] 34)
    have hfits : VC.fits ⟨3, 0, nm, dt⟩ := ⟨(by decide : (Lit.int .i64 3).wf = true), (by decide : (Lit.int .u32 0).wf = true), by have := HNL.out; unfold maxLen; simp only; omega, by have := HDL.out; simp only; omega⟩
    have hchg := (HHV.out.keep0 k3).change HINV.out (by omega) (by omega) _ [⟨3, 0, nm, dt⟩] _ _ (chs_one (x := ⟨3, 0, nm, dt⟩) och hfits) (by simp) (fun x hx => by
     obtain rfl := List.mem_singleton.1 hx
     exact hfits)
    have hinv3 := inv_change HINV.out [⟨3, 0, nm, dt⟩] (by simp) (fun x hx => by
     obtain rfl := List.mem_singleton.1 hx
     exact Int.le_refl _)
    have hhold : (changeX ⟨(fmtD (j : Int) d0).1, sb0 n j, catE, false⟩ [⟨3, 0, nm, dt⟩]).2 = 0 → Holds nm dt (changeX ⟨(fmtD (j : Int) d0).1, sb0 n j, catE, false⟩ [⟨3, 0, nm, dt⟩]).1 := fun h0 => holds_first (v := ⟨(fmtD (j : Int) d0).1, sb0 n j, catE, false⟩) HINV.out.quiet rfl rfl (by have := HJ1.out; show (1 : Int) ≤ j; omega) h0
    have HCHG := Lib.hid hchg
    have HINV3 := Lib.hid hinv3
    have HHOLD := Lib.hid hhold
    clear och k3 hfits hchg hinv3 hhold
    generalize changeX ⟨(fmtD (j : Int) d0).1, sb0 n j, catE, false⟩ [⟨3, 0, nm, dt⟩] = CH at *
    go_wp2_with fail
    refine HCHG.out.mono ?_; rintro e w4 ⟨rfl, hhv4, _⟩
    have hst : HoldSt w nm dt (CH.2 == 0) 0 w4 B b sb mb lo CH.1 := ⟨hhv4, HINV3.out, fun h => HHOLD.out (by simpa using h)⟩
    obtain ⟨th, hth⟩ : ∃ t : Bool, (CH.2 == 0) = t := ⟨_, rfl⟩
    rw [hth] at hst
    have HST := Lib.hid hst
    generalize CH.1 = v0 at *
    generalize CH.2 = C0 at *
    clear hhv4 hst HCHG HINV3 HHOLD HINV HF1 HHV HN1 HJ1
    go_wp2_with fail
    clear hth
    go_loopw [17] (fun i wr => ∃ (k : Nat) (v : VS), k ≤ acts.length ∧ k ≤ 10 ∧ i = .int .i64 (k : Nat) ∧ HoldSt w nm dt th k wr B b sb mb lo v) (fun i _ => acts.length - (intOf i).toNat)
    case atStart => exact ⟨0, v0, Nat.zero_le _, Nat.zero_le _, rfl, HST.out⟩
    case round =>
     clear HST
     obtain ⟨k, v, hk, hk10, rfl, hst⟩ := hrel
     rename World => wr
     have HST := Lib.hid hst
     have hlmm := HLM.out
     by_cases hlt : k < acts.length ∧ k < 10
     ·obtain ⟨hlt, hlt10⟩ := hlt
      have i1 : (k : Int) < acts.length := by omega
      have i2 : (k : Int) < 10 := by omega
      have hin : ∀ W, Kept [] wr W → VActsIn W (.slice p4 acts.length c4) acts 0 w.heap.size := fun W q => HA.out.kept (hst.hv.kept.trans q) (fun x hx => by cases hx)
      obtain ⟨ba, oa, lv, kv, rfl, r0, r1, r2, r3, r4, r5, r6, hrl, hbl, hfa, _, hbw, hww⟩ := VActsIn.at_ (hin wr (Kept.refl _ _)) k hlt
      have HCELL : Hid (∀ W, Kept [] wr W → W.cell? ⟨ba, oa + k * 7, none⟩ = some (.int .u8 acts[k].kind)) := Lib.hid (fun W q => (q.cell (a := ⟨ba, _, none⟩) (by show ba < wr.heap.size; omega) (by simp)).trans r0)
      have hours := uours lv acts[k].l _ _ wr hrl
      have HFR := Lib.hid (fun x hx => clip_fits (RChsIn.fits hrl x hx))
      have HFT := Lib.hid (oursP (RChsIn.fits hrl) (fun x hx => clip_fits hx))
      have HKIND := Lib.hid hfa.1
      obtain ⟨kn, hkn, hkn2⟩ := kindHolds _ hfa.1
      have HLT := Lib.hid hlt
      have HLT10 := Lib.hid hlt10
      have HOURS := Lib.hid hours
      unfold OursSays at HOURS
      generalize hL : oursL acts[k].l = L at *
      have HL8 : Hid (L.length ≤ 8) := Lib.hid (by rw [← hL]; exact ours_len _)
      rw [hkn] at HCELL r0
      clear hours hin hst hrl hbl hfa hL hlt hk hlt10 HFR r1 r3 r4 r5 r6 hkn HKIND
      go_upto_region 15 with fail
      refine HOURS.out.mono ?_; rintro e w5 ⟨va, vb, rfl, hra, _, k5⟩
      have HST5 := Lib.hid (HST.out.keep0 k5)
      have hc5 := HCELL.out w5 k5
      have hlx : ChsIn w5 va L wr.heap.size w5.heap.size := chs_of_own (P := VC.fits) hra HFT.out
      obtain ⟨pa, ca, rfl⟩ := own_shape hra
      have HLX := Lib.hid hlx
      have HK5 := Lib.hid k5
      clear hra k5 hlx HOURS HCELL r2 r0 hbw
      have hLl : (L.length : Int) ≤ 8 := by have := HL8.out; omega
      obtain ⟨K8, hK8⟩ : ∃ K : Int, (kn : Int) % 8 = K := ⟨_, rfl⟩
      have hK80 : 0 ≤ K8 ∧ K8 < 8 := by omega
      obtain ⟨hK81, hK82⟩ := hK80
      go_upto_if 103 with fail
      go_cut [] (fun wx => ∃ v', HoldSt w nm dt th (k + 1) wx B b sb mb lo v')
      case first =>
       have hI := HST5.out.inv
       by_cases h4 : K8 = 4
       ·have h44 : (K8 == 4) = true := by rw [h4]; rfl
        have hcp := HST5.out.hv.checkpoint hI (by have := HLT10.out; omega) (by have := HLT10.out; omega)
        have hst6 : ∀ w6, HV [B] w w6 B b sb mb lo (checkpointX v).1 → HoldSt w nm dt th (k + 1) w6 B b sb mb lo (checkpointX v).1 := fun w6 hv => ⟨hv, (inv_checkpoint hI).mono (by omega) (by omega), fun ht => holds_checkpoint (HST5.out.hold ht)⟩
        have HCP := Lib.hid hcp
        have HST6 := Lib.hid hst6
        clear hcp hst6 hI h4
        go_wp2_with fail
        refine HCP.out.mono ?_; rintro e w6 ⟨rfl, hv6, _⟩
        have H6 := Lib.hid (HST6.out w6 hv6)
        clear hv6
        go_wp2_with fail
        go_meet
        exact ⟨_, H6.out⟩
       ·have h44 : (K8 == 4) = false := by simpa using h4
        have hch := HST5.out.hv.change hI (by have := HLT10.out; omega) (by have := HLT10.out; omega) _ L _ _ HLX.out HL8.out HFT.out
        have hst6 : ((changeX v L).2 = 0 → ∀ x ∈ L, ¬ (x.kind = 6 ∧ x.name = nm)) → ∀ w6, HV [B] w w6 B b sb mb lo (changeX v L).1 → HoldSt w nm dt th (k + 1) w6 B b sb mb lo (changeX v L).1 := fun hno w6 hv => ⟨hv, (inv_change hI L HL8.out (fun x hx => (bd32 (HFT.out x hx).2.1).1)).mono (by omega) (by omega), fun ht => holds_change (HST5.out.hold ht) L (fun x hx => (bd32 (HFT.out x hx).2.1).1) hno⟩
        have HCH := Lib.hid hch
        have HST6 := Lib.hid hst6
        clear hch hst6 hI h4
        generalize changeX v L = CH2 at *
        go_wp2_with fail
        refine HCH.out.mono ?_; rintro e w6 ⟨rfl, hv6, p6⟩
        have HV6 := Lib.hid hv6
        by_cases h0 : CH2.2 = 0
        ·have h00 : (CH2.2 == 0) = true := by rw [h0]; rfl
         obtain ⟨S, hS, hSl⟩ := HST.out.hv.row HK5.out p6
         have hlx6 := HLX.out.kept hS (fun x hx => Or.inl (hSl x hx))
         have HLX6 := Lib.hid hlx6
         clear hv6 p6 hS hSl hlx6 h0
         go_wp2_with fail
         clear h00
         go_loopw [20] (fun i wx => ∃ q : Nat, q ≤ L.length ∧ i = .int .i64 (q : Nat) ∧ wx = w6 ∧ ∀ (z : Nat) (hz : z < L.length), z < q → ¬ (L[z].kind = 6 ∧ L[z].name = nm)) (fun i _ => L.length - (intOf i).toNat)
         case atStart => exact ⟨0, Nat.zero_le _, rfl, rfl, fun z hz h => absurd h (Nat.not_lt_zero _)⟩
         case round =>
          obtain ⟨q, hq, rfl, hwx, hno⟩ := hrel
          have hwx' := hwx.symm
          clear hwx
          subst hwx'
          have HNO := Lib.hid hno
          clear hno
          by_cases hlt : q < L.length
          ·have i3 : (q : Int) < L.length := by omega
           obtain ⟨bx, ox, rfl, c0, _, c2, _, hbx, _⟩ := HLX6.out.at_ q hlt
           have HLT2 := Lib.hid hlt
           obtain ⟨xk, hxk, c0x⟩ : ∃ x, (L[q]'hlt).kind = x ∧ w6.cell? ⟨bx, ox + q * 4, none⟩ = some (.int .i64 x) := ⟨_, rfl, c0⟩
           obtain ⟨xn, hxn, c2x⟩ : ∃ x, (L[q]'hlt).name = x ∧ w6.cell? ⟨bx, ox + q * 4 + 2, none⟩ = some (.string (bs x)) := ⟨_, rfl, c2⟩
           have HXK := Lib.hid hxk
           have HXN := Lib.hid hxn
           clear hxk hxn c0 c2
           by_cases hk6 : xk = 6
           ·have q1 : (xk == 6) = true := by rw [hk6]; rfl
            by_cases hnn : xn = nm
            ·have q2 : ((bs xn).toList == (bs nm).toList) = true := by rw [hnn]; simp
             have HAW := Lib.hid (uawake w6)
             clear hk6 hnn
             go_wp2_with fail
             refine HAW.out.mono ?_; rintro e w7 ⟨rfl, k7⟩
             have HFIN := Lib.hid (HV6.out.kept.trans k7).below
             clear k7
             go_wp2_with fail
             go_ret
             exact ⟨rfl, HFIN.out⟩
            ·have q2 : ((bs xn).toList == (bs nm).toList) = false := by rw [bs_toList, bs_toList]; simpa using hnn
             have HNO2 : Hid (∀ (z : Nat) (hz : z < L.length), z < q + 1 → ¬ (L[z].kind = 6 ∧ L[z].name = nm)) := Lib.hid (fun z hz h => by
              by_cases e : z = q
              ·subst e; exact fun hh => hnn (HXN.out.symm.trans hh.2)
              ·exact HNO.out z hz (by omega))
             clear hk6 hnn
             go_wp2_with fail
             go_roundw
             case rel => exact ⟨q + 1, HLT2.out, by go_num, trivial, HNO2.out⟩
             case measure => (have hh := HLT2.out; simp [intOf] <;> omega)
           ·have q1 : (xk == 6) = false := by simpa using hk6
            have HNO2 : Hid (∀ (z : Nat) (hz : z < L.length), z < q + 1 → ¬ (L[z].kind = 6 ∧ L[z].name = nm)) := Lib.hid (fun z hz h => by
             by_cases e : z = q
             ·subst e; exact fun hh => hk6 (HXK.out.symm.trans hh.1)
             ·exact HNO.out z hz (by omega))
            clear hk6
            go_wp2_with fail
            go_roundw
            case rel => exact ⟨q + 1, HLT2.out, by go_num, trivial, HNO2.out⟩
            case measure => (have hh := HLT2.out; simp [intOf] <;> omega)
          ·have i3 : ¬ (q : Int) < L.length := by omega
           have H6 := Lib.hid (HST6.out (fun _ x hx => by
            obtain ⟨z, hz, rfl⟩ := List.mem_iff_getElem.1 hx
            exact HNO.out z hz (by omega)) w6 HV6.out)
           go_wp2_with fail
           go_meet
           exact ⟨_, H6.out⟩
        ·have h00 : (CH2.2 == 0) = false := by simpa using h0
         have H6 := Lib.hid (HST6.out (fun h => absurd h h0) w6 hv6)
         clear hv6 p6 h0
         go_wp2_with fail
         go_meet
         exact ⟨_, H6.out⟩
      case rest =>
       obtain ⟨v', hst'⟩ := hcut
       have HST' := Lib.hid hst'
       have hrd := hst'.hv.read hst'.inv.quiet hst'.inv.dead hst'.inv.fit.cat 3 7 (Or.inr (Or.inr rfl)) nm
       have HHR : Hid (th = true → readX v' 3 7 nm = (dt, 0, v')) := Lib.hid (fun ht => holds_read (hst'.hold ht) 7)
       have HRD := Lib.hid hrd
       clear hrd hst' HST5 HST HLX HK5
       generalize readX v' 3 7 nm = RX at *
       go_wp2_with fail
       refine HRD.out.mono ?_; rintro e w7 ⟨rfl, hv7, _⟩
       have HST7 : Hid (HoldSt w nm dt th (k + 1) w7 B b sb mb lo v') := Lib.hid ⟨hv7, HST'.out.inv, HST'.out.hold⟩
       clear hv7 HRD HST'
       cases th
       ·go_wp2_with fail
        go_roundw
        case rel => exact ⟨k + 1, v', HLT.out, HLT10.out, by go_num, HST7.out⟩
        case measure => (have hh := HLT.out; simp [intOf] <;> omega)
       ·have e1 := HHR.out rfl
        obtain ⟨R1, R2, R3⟩ := RX
        injection e1 with e1 e2
        injection e2 with e2 e3
        simp only at *
        have q1 : ((bs R1).toList == (bs dt).toList) = true := by rw [e1]; simp
        have q2 : (R2 == 0) = true := by rw [e2]; rfl
        clear e1 e2 e3 HHR
        go_wp2_with fail
        go_roundw
        case rel => exact ⟨k + 1, v', HLT.out, HLT10.out, by go_num, HST7.out⟩
        case measure => (have hh := HLT.out; simp [intOf] <;> omega)
     ·have HAW : Hid (∀ W, Calls Tryz.prog 14 #[] W fun e w' => e = .returned (.bool true) ∧ Kept [] W w') := Lib.hid (fun W => uawake W)
      have hcond : ¬ ((k : Int) < acts.length) ∨ ((k : Int) < acts.length ∧ ¬ ((k : Int) < 10)) := by omega
      rcases hcond with i1 | ⟨i1, i2⟩
      ·go_wp2_with fail
       refine (HAW.out _).mono ?_; rintro e w7 ⟨rfl, k7⟩
       have HFIN := Lib.hid (HST.out.hv.kept.trans k7).below
       clear k7
       go_wp2_with fail
       go_ret
       exact ⟨rfl, HFIN.out⟩
      ·go_wp2_with fail
       refine (HAW.out _).mono ?_; rintro e w7 ⟨rfl, k7⟩
       have HFIN := Lib.hid (HST.out.hv.kept.trans k7).below
       clear k7
       go_wp2_with fail
       go_ret
       exact ⟨rfl, HFIN.out⟩
end Go.Proofs.YtdkimcnlhmhpgaaGreat
