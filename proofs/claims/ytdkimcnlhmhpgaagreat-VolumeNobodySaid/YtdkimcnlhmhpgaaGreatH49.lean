/- -/
import Derived.Test.YtdkimcnlhmhpgaaGreatH04
import Derived.Test.YtdkimcnlhmhpgaaGreatH05
import Derived.Test.YtdkimcnlhmhpgaaGreatH42
import Derived.Test.YtdkimcnlhmhpgaaGreatH46
import Derived.Test.YtdkimcnlhmhpgaaGreatH47
import Derived.Test.YtdkimcnlhmhpgaaGreatH48
import Derived.Deep.Grids
import Derived.ProofKit
import Derived.OpenShut
set_option linter.unusedVariables false
set_option linter.unusedSimpArgs false
namespace Go.Proofs.YtdkimcnlhmhpgaaGreat
open Go.RowKit
theorem run_make_bytes200 (w : World) : (Instr.makeSlice 61 (.int .i64 200) (.int .i64 200)).run Tryz.prog w = .ok (.slice (some ⟨w.heap.size, 0, none⟩) 200 200) (w.alloc (.cells (Array.replicate 200 (.int .u8 0)) 5)) := by
 kernel_rfl
theorem run_conv200 (w : World) : (convert 61 9 (.slice (some ⟨w.heap.size, 0, none⟩) 200 200)).run Tryz.prog (w.alloc (.cells (Array.replicate 200 (.int .u8 0)) 5)) = .ok (.string (bs zs200)) (w.alloc (.cells (Array.replicate 200 (.int .u8 0)) 5)) := by
 have ho := Own.new w (Array.replicate 200 (Value.int .u8 0)) 5
 have hb : Lib.Bytes (w.alloc (.cells (Array.replicate 200 (.int .u8 0)) 5)) w.heap.size 0 (bs zs200) := by
  intro i hi
  have hi2 : i < 200 := by rw [bs_size] at hi; unfold zs200 at hi; rw [List.length_replicate] at hi; exact hi
  rw [Nat.zero_add, ho.cell i (by simp; exact hi2)]
  have hz : i < zs200.length := by unfold zs200; rw [List.length_replicate]; exact hi2
  have e0 : zs200[i] = 0 := by unfold zs200; exact List.getElem_replicate _
  rw [Array.getElem_replicate]
  refine congrArg some (congrArg (Value.int .u8) ?_)
  show (0 : Int) = ((zs200[i]'hz).toNat : Int)
  rw [e0]; rfl
 have h := Lib.run_convert_whole (P := Tryz.prog) _ 61 5 9 Tryz.underlying61 Tryz.underlying5 Tryz.underlying9 w.heap.size 0 (bs zs200) hb 200
 have e : (bs zs200).size = 200 := by rw [bs_size]; exact List.length_replicate
 rw [e] at h
 exact h
theorem chs_one {w : World} {g : Nat} {x : VC} (o : Own w g x.cells 34) (h : x.fits) : ChsIn w (.slice (some ⟨g, 0, none⟩) 1 1) [x] g (g + 1) := by
 refine Or.inr ⟨g, 0, 1, rfl, fun i hi => ?_, Nat.le_refl _, Nat.lt_succ_self _, o.lt, by simp, Nat.le_refl _, by unfold maxLen; omega⟩
 obtain rfl : i = 0 := by simpa using hi
 refine ⟨[.int .i64 x.kind, .int .u32 x.id, .string (bs x.name), .string (bs x.bytes)], rfl, ⟨rfl, h⟩, fun j u hj => ?_⟩
 have hj4 : j < 4 := by have := (List.getElem?_eq_some_iff.1 hj).1; simpa using this
 have h2 := (List.getElem?_eq_some_iff.1 hj).2
 rw [Nat.zero_mul, Nat.zero_add, Nat.zero_add, o.cell j (by simpa [VC.cells] using hj4), ← h2]
 rfl
theorem chA_fits : chA.fits := ⟨by decide, by decide, by unfold maxLen; decide, by show (List.replicate 200 (0 : UInt8)).length ≤ 1048576; rw [List.length_replicate]; omega⟩
set_option maxRecDepth 100000 in
set_option maxHeartbeats 8000000 in
theorem uawake (w : World) : Calls Tryz.prog 14 #[] w fun e w' => e = .returned (.bool true) ∧ Kept [] w w' := by
 have hnew := daNew 12 w (by omega) (by omega)
 have hq0 : Quiet (newD (List.replicate 12 zeroS)) := ⟨rfl, by decide, Fit.new 12⟩
 have hlen0 : (newD (List.replicate 12 zeroS)).stand.length = 12 := List.length_replicate
 have ho0 : (newD (List.replicate 12 zeroS)).ops = 0 := rfl
 have hw0 : (newD (List.replicate 12 zeroS)).waits = [] := rfl
 generalize newD (List.replicate 12 zeroS) = d0 at *
 obtain ⟨f1, f2, f3⟩ := fmt_ok hq0 2 (by omega)
 have hopsF : (fmtD 2 d0).1.ops ≤ 100 ∧ (fmtD 2 d0).1.waits.length ≤ 100 := by
  have h := chain_few 2 [stepW 0 zeroS, stepW 1 zeroS, stepF, layD (sb0 d0.stand.length 2)] (fun f hf d => by
   simp only [List.mem_cons, List.not_mem_nil, or_false] at hf
   rcases hf with rfl | rfl | rfl | rfl
   ·have := stepW_few 0 zeroS d; exact ⟨by omega, by omega, this.2.2⟩
   ·have := stepW_few 1 zeroS d; exact ⟨by omega, by omega, this.2.2⟩
   ·have := stepF_few d; exact ⟨by omega, by omega, this.2.2⟩
   ·exact layD_few _ d) d0
  have h1 := h.1
  have h2 := h.2.1
  rw [ho0] at h1
  rw [hw0] at h2
  simp only [List.length_cons, List.length_nil] at h1 h2
  exact ⟨by show (fmtD 2 d0).1.ops ≤ 100; unfold fmtD; omega, by show (fmtD 2 d0).1.waits.length ≤ 100; unfold fmtD; omega⟩
 obtain ⟨g1, g2, g3, g4⟩ := change_A f2 (by rw [f3, hlen0])
 have hold : Holds [97] zs200 (changeX ⟨(fmtD 2 d0).1, sb0 12 2, catE, false⟩ [chA]).1 := holds_first (nm := [97]) (data := zs200) (v := ⟨(fmtD 2 d0).1, sb0 12 2, catE, false⟩) f2 rfl rfl (by show (1 : Int) ≤ 2; omega) g1
 have HNEW := Lib.hid hnew
 clear hnew
 go_enter Tryz.func14, Tryz.ntmps14
 go_wp2_with fail
 refine HNEW.out.mono ?_; rintro e w1 ⟨b, sb, mb, lo, rfl, hD, k1, hb, hsb, hmb, hlo⟩
 have hfmt := uformat (T := []) 2 hD (fun x hx => by cases hx) (by decide) (by omega) (by rw [hw0]; simp)
 have HFMT := Lib.hid hfmt
 have HD := Lib.hid hD
 have HK1 := Lib.hid k1
 have HNUM : Hid (w.heap.size ≤ b ∧ w.heap.size ≤ sb ∧ w.heap.size ≤ mb ∧ w.heap.size ≤ lo) := Lib.hid ⟨hb, hsb, hmb, hlo⟩
 have HF1 := Lib.hid f1
 have HF2 := Lib.hid f2
 have HF3 := Lib.hid f3
 have HG1 := Lib.hid g1
 have HG2 := Lib.hid g2
 have HG3 := Lib.hid g3
 have HG4 := Lib.hid g4
 have HHOLD := Lib.hid hold
 have HLEN := Lib.hid hlen0
 have HOPS := Lib.hid hopsF
 clear hfmt hD k1 hb hsb hmb hlo f1 f2 f3 g1 g2 g3 g4 hold hq0 hlen0 ho0 hw0 hopsF HNEW
 go_wp2_with fail
 refine HFMT.out.mono ?_; intro e w2 hs
 rcases hs with ⟨h, _⟩ | ⟨_, hD2, hk2, hs⟩
 ·exfalso
  rw [HLEN.out] at h
  omega
 rcases hs with ⟨hc, _⟩ | ⟨_, B, hBge, hoff, hown, rfl⟩
 ·exact absurd HF1.out hc
 rw [HLEN.out] at hown
 have hV2 : VolAt [B] w2 B b sb mb lo ⟨(fmtD 2 d0).1, sb0 12 2, catE, false⟩ := ⟨hD2, ⟨_, _, _, _, hown, RunsO.nil none 0, CatO.empty _ _ _ _ _⟩, List.mem_cons_self, fun x hx => by
  obtain rfl : x = B := by simpa using hx
  exact hown.lt, hoff⟩
 have hfr2 := ufree hV2 (sb0_may (by omega) (by omega) (by omega) (by omega)) mayC_E (by show 0 + 0 + 0 ≤ 5000; omega)
 have hc8 : countL (roomX ⟨(fmtD 2 d0).1, sb0 12 2, catE, false⟩) = 8 := by rw [room_0]; exact count_one 4 8 (by omega) (by omega)
 rw [hc8] at hfr2
 have HFR2 := Lib.hid hfr2
 have HV2 := Lib.hid hV2
 have HK2 := Lib.hid hk2
 have HBG := Lib.hid hBge
 clear hD2 hk2 hBge hoff hown hV2 hfr2 hc8
 go_wp2_with fail
 refine HFR2.out.mono ?_; rintro e w3 ⟨rfl, k3⟩
 have HK3 := Lib.hid k3
 have hmk := run_make_bytes200 w3
 have hcv := run_conv200 w3
 clear k3
 have k34 : Kept [] w3 ((w3.alloc (.cells (Array.replicate 200 (.int .u8 0)) 5)).alloc (.cells #[.int .i64 3, .int .u32 0, .string { data := #[97] }, .string (bs zs200)] 34)) := ((Kept.refl _ _).alloc _).alloc _
 have och : Own ((w3.alloc (.cells (Array.replicate 200 (.int .u8 0)) 5)).alloc (.cells #[.int .i64 3, .int .u32 0, .string { data := #[97] }, .string (bs zs200)] 34)) (w3.heap.size + 1) chA.cells 34 := (own_two w3 _ _ _ _).2
 have hV4 := (HV2.out.keep0 HK3.out).keep0 k34
 have hchg := uchange _ [chA] _ _ hV4 ⟨sb0_may (by omega) (by omega) (by omega) (by omega), mayC_E, by show 0 + 0 + 0 ≤ 900; omega, by show 1 ≤ 900; omega, by show (2 : Int) ≤ 30; omega⟩ (chs_one och chA_fits) (by simp) (fun x hx => by
  obtain rfl := List.mem_singleton.1 hx
  exact chA_fits) (by have := HOPS.out.1; show (fmtD 2 d0).1.ops ≤ 35000; omega) (by have := HOPS.out.2; show (fmtD 2 d0).1.waits.length ≤ 700; omega) (by show (fmtD 2 d0).1.stand.length ≤ 100; rw [HF3.out, HLEN.out]; omega)
 have HCHG := Lib.hid hchg
 have HK34 := Lib.hid k34
 clear hchg k34 och hV4
 go_wp2_with fail
 refine HCHG.out.mono ?_; rintro e w5 ⟨rfl, hV5, k5⟩
 rw [HG1.out]
 have hrd := uread3 (T := [B]) 0 [97] hV5 HHOLD.out.cat HHOLD.out.dead
 rw [holds_read HHOLD.out 0] at hrd
 unfold VReadSays at hrd
 have hb97 : bs [97] = { data := #[97] } := rfl
 rw [hb97] at hrd
 simp only at hrd
 have HRD := Lib.hid hrd
 have HK5 := Lib.hid k5
 have HV5 := Lib.hid hV5
 clear hrd k5 hV5 hb97 HCHG
 go_wp2_with fail
 refine HRD.out.mono ?_; rintro e w6 ⟨rfl, hV6, k6⟩
 have hfr6 := ufree hV6 HG3.out HHOLD.out.cat (by have := HG4.out; unfold totC at this; omega)
 rw [HG2.out] at hfr6
 have hsz : (bs zs200).size = 200 := by rw [bs_size]; exact List.length_replicate
 have HFR6 := Lib.hid hfr6
 have HK6 := Lib.hid (HV5.out.pkB k6)
 have HB6 := Lib.hid hV6.b_lt
 clear hfr6 k6 hV6
 go_wp2_with fail
 refine HFR6.out.mono ?_; rintro e w7 ⟨rfl, k7⟩
 have hpk : PK [B] b sb mb w1 w7 := (((HK2.out.mono (T := [B]) (by simp)).trans ((HK3.out.trans HK34.out).pk0 HV2.out.b_lt)).trans HK5.out).trans (HK6.out.trans (k7.pk0 HB6.out))
 have hfin : Kept [] w w7 := HK1.out.then_below (hpk.kept w.heap.size HK1.out.size (fun x hx => by
  obtain rfl : x = B := by simpa using hx
  exact Nat.le_trans HK1.out.size HBG.out) HNUM.out.1 HNUM.out.2.1 HNUM.out.2.2.1 (fun k hk => Nat.le_trans HNUM.out.2.2.2 (HD.out.disk.wb hk).1))
 have HFIN := Lib.hid hfin
 clear hpk hfin k7
 go_wp2_with fail
 go_ret
 exact ⟨rfl, HFIN.out⟩
theorem checkpointX_dead {v : VS} (h : v.dead = true) : checkpointX v = (v, 90) := by unfold checkpointX; rw [if_pos h]
theorem checkpointX_put {v : VS} (h : v.dead = false) (h1 : (putOut v.c).2 ≠ 0) : checkpointX v = (v, (putOut v.c).2) := by unfold checkpointX; rw [if_neg (by rw [h]; simp), if_pos h1]
theorem checkpointX_low {v : VS} (h : v.dead = false) (h1 : (putOut v.c).2 = 0) (h2 : lowCode (roomX v) (need (putOut v.c).1.length) ≠ 0) : checkpointX v = (v, 100) := by unfold checkpointX; rw [if_neg (by rw [h]; simp), if_neg (by rw [h1]; simp), if_pos h2]
theorem checkpointX_settle {v : VS} (h : v.dead = false) (h1 : (putOut v.c).2 = 0) (h2 : lowCode (roomX v) (need (putOut v.c).1.length) = 0) : checkpointX v = tellX (settleX v.c (putOut v.c).1 (lowestL (roomX v) (need (putOut v.c).1.length)) v) := by
 unfold checkpointX; rw [if_neg (by rw [h]; simp), if_neg (by rw [h1]; simp), if_neg (by rw [h2]; simp)]
set_option maxRecDepth 100000 in
set_option maxHeartbeats 16000000 in
theorem ucheckpoint {T : List Nat} {w : World} {B b sb mb lo : Nat} {v : VS} (hV : VolAt T w B b sb mb lo v) (hF : VFit 900 v) (ho : v.d.ops ≤ 35000) (hw : v.d.waits.length ≤ 700) (hn : v.d.stand.length ≤ 100) :
  Calls Tryz.prog 13 #[.pointer (some ⟨B, 0, none⟩)] w (ChangeSays T B b sb mb lo (checkpointX v) w) := by
 obtain ⟨hm, hcm, hfew, hseq, hjr⟩ := hF
 have hsm := hm.1
 obtain ⟨sv, vb, vm, vn, o, hr, hcat⟩ := hV.vol
 obtain ⟨⟨q1, m1, d1, rfl⟩, ⟨q2, m2, d2, rfl⟩, ⟨q3, m3, d3, rfl⟩⟩ := CatO.shapes hcat
 obtain ⟨RM, hRM⟩ : ∃ R, roomX v = R := ⟨_, rfl⟩
 obtain ⟨PO, hPO⟩ : ∃ x, putOut v.c = x := ⟨_, rfl⟩
 have hplR : Pl 0 RM := by rw [← hRM]; exact minus_pl _ _
 have hpl6 : PO.1.length ≤ 1000000 := by rw [← hPO]; exact putC_len hcat.plain hcm (by unfold totC; omega)
 have HCH : Hid (∀ W, Kept [] w W → Calls Tryz.prog 42 #[.pointer (some ⟨B, 0, none⟩)] W fun e w' => e = .returned (.int .i64 (if v.dead = true then 90 else 0)) ∧ W = w') := Lib.hid (fun W k => ucheck (hV.keep0 k))
 have HPUT : Hid (∀ W, Kept [] w W → Calls Tryz.prog 52 #[.agg #[.int .u32 v.c.nextBox, .int .u32 v.c.nextMan, .slice q1 m1 d1, .slice q2 m2 d2, .slice q3 m3 d3]] W fun e w' => e = .returned (.tuple #[.string (bs PO.1), .int .i64 PO.2]) ∧ Kept [] W w') := Lib.hid (fun W k => by
  have := zput _ v.c W (hcat.plain.kept0 k) hcm.small (by omega)
  unfold CPutSays at this
  rw [hPO] at this
  exact this)
 have HRO : Hid (∀ W, Kept [] w W → Calls Tryz.prog 56 #[.pointer (some ⟨B, 0, none⟩)] W (GivesR RM W)) := Lib.hid (fun W k => by rw [← hRM]; exact uroom (hV.keep0 k) hm hcm (by omega))
 have hnd0 := need_nn (PO.1.length : Int)
 have HLOW : Hid (∀ W u lo2 hi2, RunsIn W u RM lo2 hi2 → Calls Tryz.prog 53 #[u, .int .i64 (need PO.1.length)] W (LowSays RM (need PO.1.length) W)) := Lib.hid (fun W u lo2 hi2 h => xlowest u RM _ lo2 hi2 W h (by have := hplR.len0; omega) (wf_of_pl hplR) (by omega) (by unfold need; split <;> omega))
 have HNEED : Hid (∀ W, Calls Tryz.prog 54 #[.int .i64 PO.1.length] W fun e w' => e = .returned (.int .i64 (need PO.1.length)) ∧ W = w') := Lib.hid (fun W => pneed _ W (wf64 (by omega) (by omega)))
 have hLC : lowCode RM (need (PO.1.length : Int)) = 0 ∨ lowCode RM (need (PO.1.length : Int)) = 100 := by unfold lowCode; rw [if_neg (by omega)]; split; exact Or.inr rfl; exact Or.inl rfl
 have HLC := Lib.hid hLC
 have HSF : Hid (∀ W rp rn rc, Calls Tryz.prog 55 #[.pointer (some ⟨B, 0, none⟩), .agg #[.int .u32 v.c.nextBox, .int .u32 v.c.nextMan, .slice q1 m1 d1, .slice q2 m2 d2, .slice q3 m3 d3], .string (bs PO.1), .slice rp rn rc] W fun e w' => e = .returned (.func (.func 113) #[] #[.pointer (some ⟨W.heap.size, 0, none⟩), .pointer (some ⟨W.heap.size + 2, 0, none⟩), .pointer (some ⟨W.heap.size + 3, 0, none⟩), .pointer (some ⟨W.heap.size + 1, 0, none⟩)]) ∧ (((W.alloc (.cells #[.pointer (some ⟨B, 0, none⟩)] 27)).alloc (.cells #[.int .u32 v.c.nextBox, .int .u32 v.c.nextMan, .slice q1 m1 d1, .slice q2 m2 d2, .slice q3 m3 d3] 52)).alloc (.cells #[.string (bs PO.1)] 9)).alloc (.cells #[.slice rp rn rc] 56) = w') := Lib.hid (fun W rp rn rc => usettlef B _ _ _ _ _ rp rn rc PO.1 W)
 have HCELL : Hid (∀ W, Kept [] w W → W.cell? ⟨B, 7, none⟩ = some (.int .u32 v.c.nextBox) ∧ W.cell? ⟨B, 8, none⟩ = some (.int .u32 v.c.nextMan) ∧ W.cell? ⟨B, 9, none⟩ = some (.slice q1 m1 d1) ∧ W.cell? ⟨B, 10, none⟩ = some (.slice q2 m2 d2) ∧ W.cell? ⟨B, 11, none⟩ = some (.slice q3 m3 d3)) := Lib.hid (fun W k => by
  obtain ⟨_, _, _, _, _, _, _, a7, a8, a9, a10, a11, _⟩ := (k.own o (by simp)).c13
  exact ⟨a7, a8, a9, a10, a11⟩)
 have HV := Lib.hid hV
 have HCAT := Lib.hid hcat
 have HM := Lib.hid hm
 have HNUM : Hid (v.d.ops ≤ 35000 ∧ v.d.waits.length ≤ 700 ∧ v.d.stand.length ≤ 100 ∧ v.s.seq ≤ 900) := Lib.hid ⟨ho, hw, hn, hseq⟩
 have HPL6 := Lib.hid hpl6
 have HRM := Lib.hid hRM
 have HPO := Lib.hid hPO
 have hszP : (bs PO.1).size = PO.1.length := bs_size _
 have hpl7 : (PO.1.length : Int) ≤ 1000000 := by omega
 clear hm hcm hfew hseq hjr hsm hr hcat hplR hpl6 hV ho hw hn hRM hPO o hnd0 hLC
 unfold ChangeSays
 cases hd : v.dead
 case true =>
  have HX := Lib.hid (checkpointX_dead hd)
  rw [hd, if_pos rfl] at HCH
  clear hd
  go_enter Tryz.func13, Tryz.ntmps13
  go_wp2_with fail
  refine (HCH.out _ (Kept.refl _ _)).mono ?_; rintro e w1 ⟨rfl, rfl⟩
  go_wp2_with fail
  go_ret
  rw [HX.out]
  exact ⟨rfl, HV.out, PK.refl _ _ _ _ _⟩
 case false =>
  have HD := Lib.hid hd
  rw [hd, if_neg (by simp)] at HCH
  clear hd
  obtain ⟨y7, y8, y9, y10, y11⟩ := HCELL.out w (Kept.refl _ _)
  go_enter Tryz.func13, Tryz.ntmps13
  go_wp2_with fail
  refine (HCH.out _ (Kept.refl _ _)).mono ?_; rintro e w1 ⟨rfl, rfl⟩
  go_wp2_with fail
  refine (HPUT.out _ (Kept.refl _ _)).mono ?_; rintro e w2 ⟨rfl, k2⟩
  have HK2 := Lib.hid k2
  clear k2 y7 y8 y9 y10 y11
  by_cases hp : PO.2 = 0
  case neg =>
   have HX := Lib.hid (checkpointX_put HD.out (by rw [HPO.out]; exact hp))
   rw [HPO.out] at HX
   have e1 : (PO.2 == 0) = false := by rw [beq_eq_false_iff_ne]; exact hp
   clear hp
   go_wp2_with fail
   go_ret
   rw [HX.out]
   exact ⟨rfl, HV.out.keep0 HK2.out, HK2.out.pk0 HV.out.b_lt⟩
  case pos =>
   have HP0 := Lib.hid hp
   have e1 : (PO.2 == 0) = true := by rw [hp]; rfl
   clear hp
   go_wp2_with fail
   refine (HRO.out _ HK2.out).mono ?_; rintro e w3 ⟨u3, rfl, hrow3, k3⟩
   have HK3 := Lib.hid (HK2.out.trans k3)
   have HROW3 := Lib.hid hrow3
   clear k3 hrow3
   go_wp2_with fail
   refine (HNEED.out _).mono ?_; rintro e w4 ⟨rfl, rfl⟩
   go_wp2_with fail
   refine (HLOW.out _ _ _ _ (RunsIn.of_own HROW3.out)).mono ?_; rintro e w5 ⟨u5, rfl, hrow5, k5⟩
   have HK5 := Lib.hid (HK3.out.trans k5)
   have HROW5 := Lib.hid hrow5
   have HSZ3 : Hid (w.heap.size ≤ w3.heap.size) := Lib.hid HK3.out.size
   clear k5
   rcases HLC.out with hlc | hlc
   case inr =>
    have HX := Lib.hid (checkpointX_low HD.out (by rw [HPO.out]; exact HP0.out) (by rw [HRM.out, HPO.out, hlc]; decide))
    rw [hlc]
    obtain ⟨pU, cU, rfl⟩ := own_shape hrow5
    clear hlc hrow5
    go_wp2_with fail
    go_ret
    rw [HX.out]
    exact ⟨rfl, HV.out.keep0 HK5.out, HK5.out.pk0 HV.out.b_lt⟩
   case inl =>
    have HX := Lib.hid (checkpointX_settle HD.out (by rw [HPO.out]; exact HP0.out) (by rw [HRM.out, HPO.out]; exact hlc))
    rw [HRM.out, HPO.out] at HX
    have hmb : (baseS v.s PO.1.length (lowestL RM (need (PO.1.length : Int)))).may := baseS_may HM.out hlc (fun k hk => by
     have h1 := hk
     rw [← HRM.out] at h1
     have h2 := room_has h1
     exact ⟨h2.1, h2.2.1⟩)
    have HMB := Lib.hid hmb
    have hlr : lowRes RM (need (PO.1.length : Int)) = lowestL RM (need (PO.1.length : Int)) := by unfold lowRes; rw [if_pos hlc]
    rw [hlr] at hrow5 HROW5
    rw [hlc]
    obtain ⟨pU, cU, rfl⟩ := own_shape hrow5
    clear hlc hrow5 hmb hlr
    generalize hL : lowestL RM (need (PO.1.length : Int)) = NR at *
    obtain ⟨y7, y8, y9, y10, y11⟩ := HCELL.out w5 HK5.out
    go_wp2_with fail
    refine (HSF.out _ _ _ _).mono ?_; rintro e w6 ⟨rfl, rfl⟩
    go_wp2_with fail
    obtain ⟨o1, o2, o3, o4⟩ := own_four w5 #[.pointer (some ⟨B, 0, none⟩)] #[.int .u32 v.c.nextBox, .int .u32 v.c.nextMan, .slice q1 m1 d1, .slice q2 m2 d2, .slice q3 m3 d3] #[.string (bs PO.1)] #[.slice pU NR.length cU] 27 52 9 56
    have k6 : Kept [] w5 ((((w5.alloc (.cells #[.pointer (some ⟨B, 0, none⟩)] 27)).alloc (.cells #[.int .u32 v.c.nextBox, .int .u32 v.c.nextMan, .slice q1 m1 d1, .slice q2 m2 d2, .slice q3 m3 d3] 52)).alloc (.cells #[.string (bs PO.1)] 9)).alloc (.cells #[.slice pU NR.length cU] 56)) := ((((Kept.refl [] w5).alloc _).alloc _).alloc _).alloc _
    generalize ((((w5.alloc (.cells #[.pointer (some ⟨B, 0, none⟩)] 27)).alloc (.cells #[.int .u32 v.c.nextBox, .int .u32 v.c.nextMan, .slice q1 m1 d1, .slice q2 m2 d2, .slice q3 m3 d3] 52)).alloc (.cells #[.string (bs PO.1)] 9)).alloc (.cells #[.slice pU NR.length cU] 56)) = w6 at *
    have k06 : Kept [] w w6 := HK5.out.trans k6
    have hrr6 : w6.ownsRow w3.heap.size 128 2 (.slice pU NR.length cU) NR.length (rcells NR) := ownsRow_kept HROW5.out k6 (fun x hx => by cases hx)
    have hro6 : RunsO T w6 b sb mb (.slice pU NR.length cU) NR := (RunsIn.of_own hrr6).new HV.out.da HV.out.hT k06 HSZ3.out
    have hsz5 : w.heap.size ≤ w5.heap.size := HK5.out.size
    have hoff : ∀ g, w.heap.size ≤ g → OffD [B] w6 b sb mb g := fun g hg => (HV.out.da.off_new HV.out.hT k06 hg).toB HV.out.hB
    have hs1 := usettle1 w5.heap.size (w5.heap.size + 2) (w5.heap.size + 3) (w5.heap.size + 1) v.c (.slice q1 m1 d1) (.slice q2 m2 d2) (.slice q3 m3 d3) PO.1 (.slice pU NR.length cU) NR (HV.out.keep0 k06) (fun W k => by
     obtain ⟨d0, d1, d2, d3, d4⟩ := (k.own o2 (hoff _ (by omega))).k5
     exact ⟨(k.own o1 (hoff _ (by omega))).cell 0 (by simp), (k.own o3 (hoff _ (by omega))).cell 0 (by simp), (k.own o4 (hoff _ (by omega))).cell 0 (by simp), d0, d1, d2, d3, d4⟩) (HCAT.out.kept0 k06 HV.out.b_lt) hro6 (by rw [← hL]; exact low_pl _ _) HMB.out HM.out (by have := HNUM.out.2.2.2; omega) (by have := HPL6.out; omega) (by have := HNUM.out.1; omega) (by have := HNUM.out.2.1; omega) (by have := HNUM.out.2.2.1; omega)
    have HK06 := Lib.hid k06
    clear o1 o2 o3 o4 k6 k06 hrr6 hro6 hsz5 hoff y7 y8 y9 y10 y11
    generalize settleX v.c PO.1 NR v = CH at *
    refine hs1.mono ?_; rintro e w7 ⟨rfl, hV7, k7⟩
    have HV7 := Lib.hid hV7
    have HK7 := Lib.hid ((HK06.out.pk0 HV.out.b_lt).trans k7)
    clear hV7 k7
    go_wp2_with fail
    refine (utell0 HV7.out CH.2).mono ?_; rintro e w8 ⟨rfl, hV8, k8⟩
    have HV8 := Lib.hid hV8
    have HK8 := Lib.hid (HK7.out.trans (HV7.out.pkB1 k8))
    clear hV8 k8
    go_wp2_with fail
    go_ret
    rw [HX.out]
    exact ⟨rfl, HV8.out, HK8.out⟩
end Go.Proofs.YtdkimcnlhmhpgaaGreat

/- -/
namespace Go.Proofs.YtdkimcnlhmhpgaaGreat
open Go.ChangeShapes Go.WideShapes Go.ChangeAt Go.RowKit Go.Deep
def VC.fitsR (x : VC) : Prop := (Lit.int .i64 x.kind).wf = true ∧ (Lit.int .u32 x.id).wf = true ∧ x.name.length ≤ maxLen ∧ x.bytes.length ≤ maxLen
def RChCells (w : World) (cs : List Value) (x : VC) : Prop := cs = [.int .i64 x.kind, .int .u32 x.id, .string (bs x.name), .string (bs x.bytes)] ∧ x.fitsR
def RChsIn (w : World) (v : Value) (l : List VC) (lo hi : Nat) : Prop := RowsOf 4 RChCells w v l lo hi
theorem RChsIn.kept {S : List Nat} {w w' : World} {v : Value} {l : List VC} {lo hi : Nat} (h : RChsIn w v l lo hi) (k : Kept S w w') (hS : ∀ x ∈ S, x < lo ∨ hi ≤ x) : RChsIn w' v l lo hi := RowsOf.kept h k hS (fun cs a h => h)
theorem RChsIn.kept0 {w w' : World} {v : Value} {l : List VC} {lo hi : Nat} (h : RChsIn w v l lo hi) (k : Kept [] w w') : RChsIn w' v l lo hi := h.kept k (fun x hx => by cases hx)
theorem RChsIn.at_ {w : World} {p : Option Addr} {n c : Nat} {l : List VC} {lo hi : Nat} (h : RChsIn w (.slice p n c) l lo hi) (i : Nat) (hi' : i < l.length) :
  ∃ b off, p = some ⟨b, off, none⟩ ∧ w.cell? ⟨b, off + i * 4, none⟩ = some (.int .i64 l[i].kind) ∧ w.cell? ⟨b, off + i * 4 + 1, none⟩ = some (.int .u32 l[i].id) ∧ w.cell? ⟨b, off + i * 4 + 2, none⟩ = some (.string (bs l[i].name)) ∧ w.cell? ⟨b, off + i * 4 + 3, none⟩ = some (.string (bs l[i].bytes)) ∧ b < w.heap.size ∧ l[i].fitsR := by
 obtain ⟨b, off, cs, e1, e2, ⟨rfl, e4⟩, e6, e7, e8, e9⟩ := RowsOf.at_ h i hi'
 exact ⟨b, off, e1, e6 0 _ rfl, e6 1 _ rfl, e6 2 _ rfl, e6 3 _ rfl, by omega, e4⟩
instance : Inhabited VC := ⟨⟨0, 0, [], []⟩⟩
structure VAct where
 kind : Int
 fuse : Int
 l : List VC
 rk : Int
 id : Int
 name : List UInt8
 keep : List Bool
deriving Inhabited
def VAct.fits (a : VAct) : Prop := (Lit.int .u8 a.kind).wf = true ∧ (Lit.int .i64 a.fuse).wf = true ∧ (Lit.int .i64 a.rk).wf = true ∧ (Lit.int .u32 a.id).wf = true ∧ a.name.length ≤ maxLen ∧ a.keep.length ≤ maxLen
def VActCells (lo hi : Nat) (w : World) (cs : List Value) (a : VAct) : Prop := ∃ lv kv, cs = [.int .u8 a.kind, .int .i64 a.fuse, lv, .int .i64 a.rk, .int .u32 a.id, .string (bs a.name), kv] ∧ RChsIn w lv a.l lo hi ∧ BoolsIn w kv a.keep lo hi ∧ a.fits
def VActsIn (w : World) (v : Value) (l : List VAct) (lo hi : Nat) : Prop := RowsOf 7 (VActCells lo hi) w v l lo hi
set_option maxRecDepth 100000 in
theorem VActsIn.kept {S : List Nat} {w w' : World} {v : Value} {l : List VAct} {lo hi : Nat} (h : VActsIn w v l lo hi) (k : Kept S w w') (hS : ∀ x ∈ S, x < lo ∨ hi ≤ x) : VActsIn w' v l lo hi :=
 RowsOf.kept h k hS (fun cs a ⟨lv, kv, e1, e2, e3, e4⟩ => ⟨lv, kv, e1, e2.kept k hS, e3.kept k hS, e4⟩)
set_option maxRecDepth 100000 in
theorem VActsIn.at_ {w : World} {p : Option Addr} {n c : Nat} {l : List VAct} {lo hi : Nat} (h : VActsIn w (.slice p n c) l lo hi) (i : Nat) (hi' : i < l.length) :
  ∃ b off lv kv, p = some ⟨b, off, none⟩ ∧ w.cell? ⟨b, off + i * 7, none⟩ = some (.int .u8 l[i].kind) ∧ w.cell? ⟨b, off + i * 7 + 1, none⟩ = some (.int .i64 l[i].fuse) ∧ w.cell? ⟨b, off + i * 7 + 2, none⟩ = some lv ∧ w.cell? ⟨b, off + i * 7 + 3, none⟩ = some (.int .i64 l[i].rk) ∧ w.cell? ⟨b, off + i * 7 + 4, none⟩ = some (.int .u32 l[i].id) ∧ w.cell? ⟨b, off + i * 7 + 5, none⟩ = some (.string (bs l[i].name)) ∧ w.cell? ⟨b, off + i * 7 + 6, none⟩ = some kv ∧ RChsIn w lv l[i].l lo hi ∧ BoolsIn w kv l[i].keep lo hi ∧ l[i].fits ∧ lo ≤ b ∧ b < hi ∧ hi ≤ w.heap.size := by
 obtain ⟨b, off, cs, e1, e2, ⟨lv, kv, rfl, e3, e4, e5⟩, e6, e7⟩ := RowsOf.at_ h i hi'
 exact ⟨b, off, lv, kv, e1, e6 0 _ rfl, e6 1 _ rfl, e6 2 _ rfl, e6 3 _ rfl, e6 4 _ rfl, e6 5 _ rfl, e6 6 _ rfl, e3, e4, e5, e7⟩
section
variable {H : Type} {enc : TypeId × Value → H} {w : World} {base : Nat} {held : Bool} {r : Reach} {b0 : Nat}
set_option maxRecDepth 100000 in
theorem vbools_of_trod {fuel : Nat} {c : Value} {x : DataW H × List MemPlace} (h : DataW.trod enc Tryz.prog w base (fun _ => true) held fuel 39 [c] = some x) :
  ∃ l, BoolsIn w c l 0 w.heap.size := by
 rcases Go.Deep.open_bools Tryz.underlying39 Tryz.underlying4 (by kernel_rfl) h with ⟨e, _⟩ | ⟨a, len, cap, B, e, _, hl, hm, _, hx⟩
 ·injection e with e
  exact ⟨[], Or.inl ⟨rfl, _, _, e⟩⟩
 ·injection e with e
  subst e
  by_cases h0 : len = 0
  ·subst h0; exact ⟨[], Or.inl ⟨rfl, _, _, rfl⟩⟩
  ·obtain ⟨b, off, spot⟩ := a
   have hspot : spot = none := by simpa [Addr.add] using World.cell?_spot (hx 0 (by omega))
   subst hspot
   have hb : b < w.heap.size := by
    have := hx 0 (by omega)
    rw [Go.WideShapes.add_plain] at this
    exact World.block_lt_of_cell? _ _ this
   refine ⟨(List.range len).map B, Or.inr ⟨b, off, cap, by simp, fun i hi => ?_, Nat.zero_le _, hb, Nat.le_refl _, fun e => ?_, by simpa using hl, hm⟩⟩
   ·have hi' : i < len := by simpa using hi
    have := hx i (by omega)
    rw [Go.WideShapes.add_plain] at this
    rw [this]
    simp
   ·have := congrArg List.length e
    simp at this; omega
theorem BoolsIn.vlen {w : World} {v : Value} {l : List Bool} {lo hi : Nat} (h : BoolsIn w v l lo hi) : l.length ≤ maxLen := by
 rcases h with ⟨rfl, a, c, rfl⟩ | ⟨b, off, c, rfl, _, _, _, _, _, h7, h8⟩
 ·exact Nat.zero_le _
 ·omega
set_option maxRecDepth 100000 in
theorem rch_of_trod {fuel : Nat} {cs : List Value} {y : DataW H × List MemPlace} (h : DataW.trod enc Tryz.prog w base (fun _ => true) held fuel 110 cs = some y) (hl : cs.length = 4) :
  ∃ a, RChCells w cs a := by
 have hc1 : Tryz.prog.cellsOf 31 = 1 := by kernel_rfl
 have hc2 : Tryz.prog.cellsOf 32 = 1 := by kernel_rfl
 have hc3 : Tryz.prog.cellsOf 9 = 1 := by kernel_rfl
 match cs, hl with
 | [c0, c1, c2, c3], _ =>
  obtain ⟨xs, n, _, _, _, hlen, hi⟩ := DataW.trod_struct Tryz.underlying110 h
  match xs, hlen with
  | [y0, y1, y2, y3], _ =>
   have g0 := hi 0 _ rfl
   have g1 := hi 1 _ rfl
   have g2 := hi 2 _ rfl
   have g3 := hi 3 _ rfl
   simp only [hc1, hc2, hc3, List.getElem?_cons_succ, List.getElem?_cons_zero, List.drop_succ_cons, List.drop_zero, List.take_succ_cons, List.take_zero] at g0 g1 g2 g3
   obtain ⟨a0, e0, _, w0⟩ := DataW.trod_int Tryz.underlying31 g0
   obtain ⟨a1, e1, _, w1⟩ := DataW.trod_int Tryz.underlying32 g1
   obtain ⟨a2, e2, _, w2⟩ := DataW.trod_string Tryz.underlying9 g2
   obtain ⟨a3, e3, _, w3⟩ := DataW.trod_string Tryz.underlying9 g3
   injection e0 with e0; injection e1 with e1; injection e2 with e2; injection e3 with e3
   subst e0 e1 e2 e3
   refine ⟨⟨a0, a1, a2.data.toList, a3.data.toList⟩, by rw [bs_of, bs_of], w0, w1, ?_, ?_⟩
   ·show a2.data.toList.length ≤ maxLen
    simpa using w2
   ·show a3.data.toList.length ≤ maxLen
    simpa using w3
set_option maxRecDepth 100000 in
theorem rchs_of_trod {fuel : Nat} {c : Value} {x : DataW H × List MemPlace} (h : DataW.trod enc Tryz.prog w base (fun _ => true) held fuel 36 [c] = some x) : ∃ l, RChsIn w c l 0 w.heap.size :=
 rows_of_trod (R := RChCells) Tryz.underlying36 (by kernel_rfl) (by omega) (fun n cs y => rch_of_trod) h
set_option maxRecDepth 100000 in
theorem vact_of_trod {fuel : Nat} {cs : List Value} {y : DataW H × List MemPlace} (h : DataW.trod enc Tryz.prog w base (fun _ => true) held fuel 41 cs = some y) (hl : cs.length = 7) :
  ∃ a, VActCells 0 w.heap.size w cs a := by
 have hc0 : Tryz.prog.cellsOf 5 = 1 := by kernel_rfl
 have hc1 : Tryz.prog.cellsOf 3 = 1 := by kernel_rfl
 have hc2 : Tryz.prog.cellsOf 36 = 1 := by kernel_rfl
 have hc3 : Tryz.prog.cellsOf 31 = 1 := by kernel_rfl
 have hc4 : Tryz.prog.cellsOf 32 = 1 := by kernel_rfl
 have hc5 : Tryz.prog.cellsOf 9 = 1 := by kernel_rfl
 have hc6 : Tryz.prog.cellsOf 39 = 1 := by kernel_rfl
 match cs, hl with
 | [c0, c1, c2, c3, c4, c5, c6], _ =>
  obtain ⟨xs, n, _, _, _, hlen, hi⟩ := DataW.trod_struct Tryz.underlying41 h
  match xs, hlen with
  | [y0, y1, y2, y3, y4, y5, y6], _ =>
   have g0 := hi 0 _ rfl
   have g1 := hi 1 _ rfl
   have g2 := hi 2 _ rfl
   have g3 := hi 3 _ rfl
   have g4 := hi 4 _ rfl
   have g5 := hi 5 _ rfl
   have g6 := hi 6 _ rfl
   simp only [hc0, hc1, hc2, hc3, hc4, hc5, hc6, List.getElem?_cons_succ, List.getElem?_cons_zero, List.drop_succ_cons, List.drop_zero, List.take_succ_cons, List.take_zero] at g0 g1 g2 g3 g4 g5 g6
   obtain ⟨a0, e0, _, w0⟩ := DataW.trod_int Tryz.underlying5 g0
   obtain ⟨a1, e1, _, w1⟩ := DataW.trod_int Tryz.underlying3 g1
   obtain ⟨l2, h2⟩ := rchs_of_trod g2
   obtain ⟨a3, e3, _, w3⟩ := DataW.trod_int Tryz.underlying31 g3
   obtain ⟨a4, e4, _, w4⟩ := DataW.trod_int Tryz.underlying32 g4
   obtain ⟨a5, e5, _, w5⟩ := DataW.trod_string Tryz.underlying9 g5
   obtain ⟨l6, h6⟩ := vbools_of_trod g6
   injection e0 with e0; injection e1 with e1; injection e3 with e3; injection e4 with e4; injection e5 with e5
   subst e0 e1 e3 e4 e5
   refine ⟨⟨a0, a1, l2, a3, a4, a5.data.toList, l6⟩, c2, c6, by rw [bs_of], h2, h6, w0, w1, w3, w4, ?_, h6.vlen⟩
   show a5.data.toList.length ≤ maxLen
   simpa using w5
set_option maxRecDepth 100000 in
theorem open_vacts {v : Value} {d : DataW H} {p : List MemPlace} (hv : Value.okWide Tryz.prog w r b0 22 v) (h : DataW.Trod enc Tryz.prog w base (fun _ => true) held 22 v d p) : ∃ l, VActsIn w v l 0 w.heap.size := by
 obtain ⟨a0, len, cap, rfl⟩ := okWide_slice Tryz.underlying22 hv
 obtain ⟨fuel, hf⟩ := h
 exact rows_of_trod (R := VActCells 0 w.heap.size) Tryz.underlying22 (by kernel_rfl) (by omega) (fun n cs y => vact_of_trod) (by simpa [Value.cells] using hf)
end
end Go.Proofs.YtdkimcnlhmhpgaaGreat
