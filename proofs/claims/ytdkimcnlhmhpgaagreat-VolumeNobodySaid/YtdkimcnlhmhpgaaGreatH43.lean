/- -/
import Derived.Test.YtdkimcnlhmhpgaaGreatH09
import Derived.Test.YtdkimcnlhmhpgaaGreatH42
set_option linter.unusedVariables false
set_option linter.unusedSimpArgs false
namespace Go.Proofs.YtdkimcnlhmhpgaaGreat
open Go.RowKit
theorem plan_pl {left : List (Int × Int)} (h : Pl 0 left) (l : List VC) : ∀ j, j ≤ l.length → Pl 0 (planAt left l j).2
 | 0, _ => h
 | j + 1, hj => by
  rw [planAt_succ left l j (by omega)]
  unfold plan1
  split
  ·exact minus_pl _ _
  ·exact plan_pl h l j (by omega)
def PlanSays (left : List (Int × Int)) (l : List VC) (w : World) (e : Ending) (w' : World) : Prop :=
 ((planOk left l ∧ ∃ rv lv, e = .returned (.tuple #[rv, lv, .int .i64 0]) ∧ RecsNew w w' rv (planAt left l l.length).1 ∧ w'.ownsRow w.heap.size 128 2 lv (planAt left l l.length).2.length (rcells (planAt left l l.length).2)) ∨ (¬ planOk left l ∧ ∃ C, C ≠ 0 ∧ (Lit.int .i64 C).wf = true ∧ e = .returned (.tuple #[.slice none 0 0, .slice none 0 0, .int .i64 C]))) ∧ Kept [] w w'
set_option maxRecDepth 100000 in
set_option maxHeartbeats 8000000 in
theorem uplan {T : List Nat} {w : World} {B b sb mb lo : Nat} {v : VS} (vl : Value) (l : List VC) (lo1 hi1 : Nat) (hV : VolAt T w B b sb mb lo v) (hm : v.s.may) (hc : mayC v.c) (hf : v.c.boxes.length + v.c.mans.length + v.c.names.length ≤ 1000) (hl : ChsIn w vl l lo1 hi1) (hl8 : l.length ≤ 8192) :
  Calls Tryz.prog 44 #[.pointer (some ⟨B, 0, none⟩), vl] w (PlanSays (roomX v) l w) := by
 have HRM := Lib.hid (uroom hV hm hc (by omega))
 have hpl : Pl 0 (roomX v) := minus_pl _ _
 have HPL : Hid (∀ j, j ≤ l.length → Pl 0 (planAt (roomX v) l j).2) := Lib.hid (plan_pl hpl l)
 have HL := Lib.hid hl
 obtain ⟨p1, c1, rfl⟩ := RowsOf.shape hl
 have n2 : (l.length : Int) ≤ 8192 := by omega
 have HL8 := Lib.hid hl8
 clear hV hm hc hf hl hpl hl8
 unfold PlanSays
 generalize roomX v = RM at *
 go_enter Tryz.func44, Tryz.ntmps44
 go_wp2_with fail
 refine HRM.out.mono ?_; rintro e w1 ⟨u1, rfl, hrm, k1⟩
 have HRM1 := Lib.hid hrm
 have K1 := Lib.hid k1
 obtain ⟨pr, cr, rfl⟩ := own_shape hrm
 clear hrm k1 HRM
 go_wp2_with fail
 go_loopw [7, 8, 10, 11, 12, 13, 18] (fun lv rv x r ru e i wr => ∃ k : Nat, k ≤ l.length ∧ i = .int .i64 k ∧ (∀ j (h : j < l.length), j < k → kBlob l[j].kind = true → lowCode (planAt RM l j).2 (need l[j].bytes.length) = 0) ∧ wr.ownsRow w.heap.size 128 2 lv (planAt RM l k).2.length (rcells (planAt RM l k).2) ∧ RecsNew w wr rv (planAt RM l k).1 ∧ Kept [] w wr) (fun _ _ _ _ _ _ i _ => l.length - (intOf i).toNat)
 case atStart => exact ⟨0, Nat.zero_le _, rfl, (fun j _ hj => by omega), HRM1.out, RecsNew.nil _ _, K1.out⟩
 case round =>
  obtain ⟨k, hk, rfl, hgood, hleft, hrecs, hK⟩ := hrel
  by_cases hlt : k < l.length
  ·have i1 : (k : Int) < l.length := by omega
   obtain ⟨bl, ol, rfl, r0, r1, r2, r3, hbl, hfit⟩ := ChsIn.at_ (HL.out.kept0 hK) k hlt
   have hsucc := planAt_succ RM l k hlt
   have hlen := planAt_len RM l k hk
   have hplk := HPL.out k hk
   have HGOOD := Lib.hid hgood
   have HBAD : Hid (kBlob l[k].kind = true → lowCode (planAt RM l k).2 (need l[k].bytes.length) ≠ 0 → ¬ planOk RM l) := Lib.hid (fun h1 h2 h3 => h2 (h3 k hlt h1))
   have HNX : Hid ((kBlob l[k].kind = true → lowCode (planAt RM l k).2 (need l[k].bytes.length) = 0) → ∀ j (h : j < l.length), j < k + 1 → kBlob l[j].kind = true → lowCode (planAt RM l j).2 (need l[j].bytes.length) = 0) := Lib.hid (fun h1 j hj hjk hb => by
    by_cases e : j = k
    ·subst e; exact h1 hb
    ·exact hgood j hj (by omega) hb)
   have HLT := Lib.hid hlt
   have HK := Lib.hid hK
   obtain ⟨p6, c6, rfl⟩ := hrecs.shape
   rw [hlen]
   have HR := Lib.hid hrecs
   have HLF := Lib.hid hleft
   have HLEN := Lib.hid hlen
   have HPLK := Lib.hid hplk
   obtain ⟨pL, cL, rfl⟩ := own_shape hleft
   have HSUCC := Lib.hid hsucc
   clear hgood hleft hrecs hK hk hsucc hlen hplk
   obtain ⟨PK1, hPK1⟩ : ∃ P, planAt RM l (k + 1) = P := ⟨_, rfl⟩
   rw [hPK1] at HSUCC
   have HPK := Lib.hid hPK1
   clear hPK1
   generalize planAt RM l k = PK at *
   generalize hX : l[k] = X at *
   clear hX hlt
   obtain ⟨xk, xi, xn, xb⟩ := X
   obtain ⟨RL, LL⟩ := PK
   simp only at *
   have HF0 : Hid (JRec.fits ⟨xk, xi, xn, 0, []⟩) := Lib.hid (rec_fits hfit)
   have HF1 : Hid (∀ R, JRec.fits ⟨xk, xi, xn, (xb.length : Int), R⟩) := Lib.hid (fun R => ⟨hfit.1, hfit.2.1, hfit.2.2.1, by have h1 : xb.length ≤ 1048576 := hfit.2.2.2; exact wf64 (n := (xb.length : Int)) (by omega) (by omega)⟩)
   have hxb : (xb.length : Int) ≤ 1048576 := by have h1 : xb.length ≤ 1048576 := hfit.2.2.2; omega
   have HCO : Hid (∀ W, Calls Tryz.prog 47 #[.int .i64 xk] W fun e w' => e = .returned (.bool (kBlob xk)) ∧ W = w') := Lib.hid (fun W => ucomes xk W)
   have HREC : Hid (∀ W, Calls Tryz.prog 95 #[.agg #[.int .i64 xk, .int .u32 xi, .string (bs xn), .string (bs xb)]] W fun e w' => e = .returned (.agg #[.int .i64 xk, .int .u32 xi, .string (bs xn), .int .i64 0, .slice none 0 0]) ∧ Kept [] W w') := Lib.hid (fun W => urecord ⟨xk, xi, xn, xb⟩ W)
   have HNEED : Hid (∀ W, Calls Tryz.prog 54 #[.int .i64 xb.length] W fun e w' => e = .returned (.int .i64 (need xb.length)) ∧ W = w') := Lib.hid (fun W => pneed _ W (wf64 (by omega) (by omega)))
   have hnd0 := need_nn (xb.length : Int)
   have hnd1 : need (xb.length : Int) ≤ 8192 := by unfold need; split <;> omega
   have HLOW : Hid (∀ W u lo2 hi2, RunsIn W u LL lo2 hi2 → Calls Tryz.prog 53 #[u, .int .i64 (need xb.length)] W (LowSays LL (need xb.length) W)) := Lib.hid (fun W u lo2 hi2 h => xlowest u LL _ lo2 hi2 W h (by have := HPLK.out.len0; omega) (wf_of_pl HPLK.out) (by omega) (by omega))
   have HMIN : Hid (∀ W u lo2 hi2 u3 lo3 hi3, RunsIn W u LL lo2 hi2 → RunsIn W u3 (lowestL LL (need xb.length)) lo3 hi3 → Calls Tryz.prog 96 #[u, u3] W (GivesR (minusL LL (lowestL LL (need xb.length))) W)) := Lib.hid (fun W u lo2 hi2 u3 lo3 hi3 h1 h2 => xminus u LL lo2 hi2 u3 _ lo3 hi3 W h1 h2 (by have := HPLK.out.len0; omega) (by have := (low_pl LL (need xb.length)).len0; omega) (wf_of_pl HPLK.out) (wf_of_pl (low_pl _ _)))
   have hLC : lowCode LL (need (xb.length : Int)) = 0 ∨ lowCode LL (need (xb.length : Int)) = 100 := by unfold lowCode; rw [if_neg (by omega)]; split; exact Or.inr rfl; exact Or.inl rfl
   have hLR : lowCode LL (need (xb.length : Int)) = 0 → lowRes LL (need (xb.length : Int)) = lowestL LL (need xb.length) := fun h => by unfold lowRes; rw [if_pos h]
   have HLR := Lib.hid hLR
   have hp1 : PK1 = if kBlob xk = true then (RL ++ [⟨xk, xi, xn, xb.length, lowestL LL (need xb.length)⟩], minusL LL (lowestL LL (need xb.length))) else (RL ++ [⟨xk, xi, xn, 0, []⟩], LL) := HSUCC.out
   have HP1 := Lib.hid hp1
   have oX := Own.new wr #[.int .i64 xk, .int .u32 xi, .string (bs xn), .string (bs xb)] 34
   obtain ⟨z0, z1, z2, z3⟩ := oX.c4
   have HOX := Lib.hid oX
   have HKX := Lib.hid (HK.out.alloc (.cells #[.int .i64 xk, .int .u32 xi, .string (bs xn), .string (bs xb)] 34))
   have kx : Kept [] wr (wr.alloc (.cells #[.int .i64 xk, .int .u32 xi, .string (bs xn), .string (bs xb)] 34)) := (Kept.refl [] wr).alloc _
   have HRX := Lib.hid (HR.out.kept0 kx)
   have HLX := Lib.hid (World.ownsRow.alloc HLF.out (.cells #[.int .i64 xk, .int .u32 xi, .string (bs xn), .string (bs xb)] 34))
   clear oX kx hp1 hLR hfit HSUCC
   go_wp2_with fail
   refine (HREC.out _).mono ?_; rintro e w3 ⟨rfl, k3⟩
   have HK3 := Lib.hid (HKX.out.trans k3)
   have hoX3 := k3.own HOX.out (by simp)
   have HR4 := Lib.hid ((HRX.out.kept0 k3).kept0 ((Kept.refl [] w3).alloc (.cells #[.int .i64 xk, .int .u32 xi, .string (bs xn), .int .i64 0, .slice none 0 0] 102)))
   have HL4 := Lib.hid (World.ownsRow.alloc (ownsRow_kept HLX.out k3 (fun x hx => by cases hx)) (.cells #[.int .i64 xk, .int .u32 xi, .string (bs xn), .int .i64 0, .slice none 0 0] 102))
   have HR3 := Lib.hid (HRX.out.kept0 k3)
   have HL3 := Lib.hid (ownsRow_kept HLX.out k3 (fun x hx => by cases hx))
   have HK34 : Hid (Kept [] w3 (w3.alloc (.cells #[.int .i64 xk, .int .u32 xi, .string (bs xn), .int .i64 0, .slice none 0 0] 102))) := Lib.hid ((Kept.refl [] w3).alloc _)
   have HK4 := Lib.hid (HK3.out.alloc (.cells #[.int .i64 xk, .int .u32 xi, .string (bs xn), .int .i64 0, .slice none 0 0] 102))
   have oR := Own.new w3 #[.int .i64 xk, .int .u32 xi, .string (bs xn), .int .i64 0, .slice none 0 0] 102
   have hsz34 : (w3.alloc (.cells #[.int .i64 xk, .int .u32 xi, .string (bs xn), .int .i64 0, .slice none 0 0] 102)).heap.size = w3.heap.size + 1 := by simp
   have HSZ := Lib.hid hsz34
   have HOR := Lib.hid oR
   have HGR : Hid (w.heap.size ≤ w3.heap.size) := Lib.hid HK3.out.size
   have HOX4 := Lib.hid (hoX3.alloc (.cells #[.int .i64 xk, .int .u32 xi, .string (bs xn), .int .i64 0, .slice none 0 0] 102))
   clear z0 z1 z2 z3 k3 hoX3 hsz34 HRX HLX HREC
   obtain ⟨z0, z1, z2, z3⟩ := HOX4.out.c4
   obtain ⟨y0, y1, y2, y3, y4⟩ := oR.k5
   have s3 := oR.free 3
   have s4 := oR.free 4
   clear oR
   go_upto_region 7 with fail
   generalize hrb : w3.heap.size = rb at *
   generalize w3.alloc (.cells #[.int .i64 xk, .int .u32 xi, .string (bs xn), .int .i64 0, .slice none 0 0] 102) = w4 at *
   have HRB := Lib.hid hrb
   clear hrb
   go_wp2_with fail
   refine (HCO.out _).mono ?_; rintro e w2 ⟨rfl, rfl⟩
   generalize kBlob xk = KB at *
   cases KB
   ·have hp : PK1 = (RL ++ [⟨xk, xi, xn, 0, []⟩], LL) := by have h := HP1.out; rw [if_neg (by simp)] at h; exact h
    have HP := Lib.hid hp
    have HNX1 := Lib.hid (HNX.out (fun h => by cases h))
    obtain ⟨vs, hvs, hrow, heach⟩ := HR4.out
    rw [HLEN.out] at hrow
    have HVS := Lib.hid hvs
    have HROW := Lib.hid hrow
    have HEACH := Lib.hid heach
    clear hp hvs hrow heach HBAD HNX HP1
    obtain ⟨i0, q0, q1, q2, q3⟩ := infoRec
    have m3 : k + 1 ≤ maxLen := by have := HLT.out; have := HL8.out; unfold maxLen; omega
    have m4 : (k + 1) * 64 ≤ 140737488355328 := by have := HLT.out; have := HL8.out; omega
    have hszw : w.heap.size ≤ w4.heap.size := HK4.out.size
    go_wp2_with (at_builtin; go_must (refine wpList_append_own_at _ rfl (.tmp 48) (.tmp 50) 92 rfl w.heap.size 102 i0 (.agg #[.int .i64 0, .int .u32 0, .string { data := #[] }, .int .i64 0, .slice none 0 0]) 5 64 Tryz.underlying92 q0 q1 q2 q3 rfl (by decide) _ _ _ rfl (World.ownsRow.alloc HROW.out _) ⟨w4.heap.size, 0, none⟩ 1 1 [.int .i64 xk, .int .u32 xi, .string (bs xn), .int .i64 0, .slice none 0 0] rfl rfl ?_ ?_ m3 m4 ?_ ?_))
    ·exact news_alloc _ _ _
    ·intro u hu; simp at hu; rcases hu with rfl | rfl | rfl | rfl | rfl <;> rfl
    ·simp <;> omega
    intro v6 w6 o6 gr6 _ _
    have hnx : RecsNew w w6 v6 PK1.1 := by
     rw [HP.out]
     exact RecsNew.more HVS.out HEACH.out (by rw [HLEN.out]; exact HROW.out) (World.ownsRow_nil _ _ _ _) HF0.out gr6 (by rw [HLEN.out]; exact o6)
    have hk6 : Kept [] w w6 := (HK4.out.alloc _).grown gr6 (fun q hq => Or.inr (World.ownsRow.lt HROW.out q hq).1)
    have hl6 : w6.ownsRow w.heap.size 128 2 (.slice pL LL.length cL) PK1.2.length (rcells PK1.2) := by
     rw [HP.out]
     exact ownsRow_same (World.ownsRow.alloc HL4.out _) (fun g cs hb hc => gr6.block g (lt_of_block hc) (fun e => own_row_ne (World.ownsRow.alloc HROW.out _) (show Own _ g cs 128 from hc) (by decide) e.symm))
    have HNW := Lib.hid hnx
    have HK6 := Lib.hid hk6
    have HL6 := Lib.hid hl6
    clear hnx hk6 hl6 o6 gr6
    go_wp2_with fail
    go_roundw
    case rel => exact ⟨k + 1, HLT.out, by go_num, HNX1.out, by rw [HPK.out]; exact HL6.out, by rw [HPK.out]; exact HNW.out, HK6.out⟩
    case measure => (have hh := HLT.out; simp [intOf] <;> omega)
   ·have hp : PK1 = (RL ++ [⟨xk, xi, xn, xb.length, lowestL LL (need xb.length)⟩], minusL LL (lowestL LL (need xb.length))) := by have h := HP1.out; rw [if_pos rfl] at h; exact h
    have HP := Lib.hid hp
    have HB1 : Hid (lowCode LL (need (xb.length : Int)) ≠ 0 → ¬ planOk RM l) := Lib.hid (HBAD.out rfl)
    clear hp HP1 HBAD
    go_wp2_with fail
    refine (HNEED.out _).mono ?_; rintro e w2 ⟨rfl, rfl⟩
    go_wp2_with fail
    refine (HLOW.out _ _ _ _ (RunsIn.of_own HL4.out)).mono ?_; rintro e w5 ⟨u5, rfl, hrow5, k5⟩
    have HK5 := Lib.hid (HK4.out.trans k5)
    have HR5 := Lib.hid (HR4.out.kept0 k5)
    have HL5 := Lib.hid (ownsRow_kept HL4.out k5 (fun x hx => by cases hx))
    have HOX5 := Lib.hid (k5.own HOX4.out (by simp))
    have HOR5 := Lib.hid (k5.own HOR.out (by simp))
    have HLC := Lib.hid hLC
    have HK35 := Lib.hid (HK34.out.trans k5)
    rcases hLC with hlc | hlc
    ·have hlr := HLR.out hlc
     have HNX1 := Lib.hid (HNX.out (fun _ => hlc))
     rw [hlr] at hrow5
     rw [hlc]
     have HROW5 := Lib.hid hrow5
     obtain ⟨p5, c5, rfl⟩ := own_shape hrow5
     obtain ⟨a0, a1, a2, a3⟩ := HOX5.out.c4
     obtain ⟨b0, b1, b2, b3, b4⟩ := HOR5.out.k5
     have f3 := HOR5.out.free 3
     have f4 := HOR5.out.free 4
     clear hrow5 hlr hlc HB1 HNX k5 y0 y1 y2 y3 y4 z0 z1 z2 z3 s3 s4 HLC
     go_upto_region 12 with fail
     rw [bs_size]
     have o6 : Own ((w5.setCell ⟨rb, 3, none⟩ (.int .i64 (xb.length : Int))).setCell ⟨rb, 4, none⟩ (.slice p5 (lowestL LL (need (xb.length : Int))).length c5)) rb #[.int .i64 xk, .int .u32 xi, .string (bs xn), .int .i64 (xb.length : Int), .slice p5 (lowestL LL (need (xb.length : Int))).length c5] 102 := (HOR5.out.set 3 _).set 4 _
     have k56 : Kept [rb] w5 ((w5.setCell ⟨rb, 3, none⟩ (.int .i64 (xb.length : Int))).setCell ⟨rb, 4, none⟩ (.slice p5 (lowestL LL (need (xb.length : Int))).length c5)) := ((Kept.refl [rb] w5).setCell (p := ⟨rb, 3, none⟩) (Or.inl List.mem_cons_self) _).setCell (p := ⟨rb, 4, none⟩) (Or.inl List.mem_cons_self) _
     have k36 : Kept [] w3 ((w5.setCell ⟨rb, 3, none⟩ (.int .i64 (xb.length : Int))).setCell ⟨rb, 4, none⟩ (.slice p5 (lowestL LL (need (xb.length : Int))).length c5)) := (HK35.out.setCell (p := ⟨rb, 3, none⟩) (Or.inr (by have := HRB.out; show _ ≤ rb; omega)) _).setCell (p := ⟨rb, 4, none⟩) (Or.inr (by have := HRB.out; show _ ≤ rb; omega)) _
     generalize ((w5.setCell ⟨rb, 3, none⟩ (.int .i64 (xb.length : Int))).setCell ⟨rb, 4, none⟩ (.slice p5 (lowestL LL (need (xb.length : Int))).length c5)) = w6 at *
     have hr6 := HR3.out.kept0 k36
     have hl6 := ownsRow_kept HL3.out k36 (fun x hx => by cases hx)
     have hrow6 := ownsRow_kept HROW5.out k56 (fun x hx => by
      obtain rfl : x = rb := by simpa using hx
      have := HSZ.out; have := HRB.out; omega)
     have hk6 := HK3.out.trans k36
     have HO6 := Lib.hid o6
     have HR6 := Lib.hid hr6
     have HL6 := Lib.hid hl6
     have HROW6 := Lib.hid hrow6
     have HK6 := Lib.hid hk6
     clear o6 k56 k36 hr6 hl6 hrow6 hk6 a0 a1 a2 a3 b0 b1 b2 b3 b4 f3 f4
     go_wp2_with fail
     with_reducible refine (HMIN.out _ _ _ _ _ _ _ (RunsIn.of_own HL6.out) (RunsIn.of_own HROW6.out)).mono ?_
     rintro e w7 ⟨u7, rfl, hown7, k7⟩
     have HK7 := Lib.hid (HK6.out.trans k7)
     have ho7 := k7.own HO6.out (by simp)
     have hr7 := HR6.out.kept0 k7
     have hrow7 := ownsRow_kept HROW6.out k7 (fun x hx => by cases hx)
     have HRUN7 : Hid (RunsNew w w7 (.slice p5 (lowestL LL (need (xb.length : Int))).length c5) (lowestL LL (need (xb.length : Int)))) := Lib.hid (ownsRow_base hrow7 (by have := HGR.out; have := HSZ.out; have := HRB.out; omega))
     have HOWN7 := Lib.hid (ownsRow_base hown7 HK6.out.size)
     obtain ⟨p7, c7, rfl⟩ := own_shape hown7
     obtain ⟨b0, b1, b2, b3, b4⟩ := ho7.k5
     obtain ⟨vs, hvs, hrow, heach⟩ := hr7
     rw [HLEN.out] at hrow
     have HVS := Lib.hid hvs
     have HROW := Lib.hid hrow
     have HEACH := Lib.hid heach
     clear k7 ho7 hrow7 hown7 hvs hrow heach
     obtain ⟨i0, q0, q1, q2, q3⟩ := infoRec
     have m3 : k + 1 ≤ maxLen := by have := HLT.out; have := HL8.out; unfold maxLen; omega
     have m4 : (k + 1) * 64 ≤ 140737488355328 := by have := HLT.out; have := HL8.out; omega
     have hszw : w.heap.size ≤ w7.heap.size := HK7.out.size
     go_wp2_with (at_builtin; go_must (refine wpList_append_own_at _ rfl (.tmp 48) (.tmp 50) 92 rfl w.heap.size 102 i0 (.agg #[.int .i64 0, .int .u32 0, .string { data := #[] }, .int .i64 0, .slice none 0 0]) 5 64 Tryz.underlying92 q0 q1 q2 q3 rfl (by decide) _ _ _ rfl (World.ownsRow.alloc HROW.out _) ⟨w7.heap.size, 0, none⟩ 1 1 [.int .i64 xk, .int .u32 xi, .string (bs xn), .int .i64 (xb.length : Int), .slice p5 (lowestL LL (need (xb.length : Int))).length c5] rfl rfl ?_ ?_ m3 m4 ?_ ?_))
     ·exact news_alloc _ _ _
     ·intro u hu; simp at hu; rcases hu with rfl | rfl | rfl | rfl | rfl <;> rfl
     ·simp <;> omega
     intro v6 w6 o6 gr6 _ _
     have hnx : RecsNew w w6 v6 PK1.1 := by
      rw [HP.out]
      exact RecsNew.more HVS.out HEACH.out (by rw [HLEN.out]; exact HROW.out) HRUN7.out (HF1.out _) gr6 (by rw [HLEN.out]; exact o6)
     have hk6 : Kept [] w w6 := (HK7.out.alloc _).grown gr6 (fun q hq => Or.inr (World.ownsRow.lt HROW.out q hq).1)
     have hl6 : w6.ownsRow w.heap.size 128 2 (.slice p7 (minusL LL (lowestL LL (need (xb.length : Int)))).length c7) PK1.2.length (rcells PK1.2) := by
      rw [HP.out]
      exact ownsRow_same (World.ownsRow.alloc HOWN7.out _) (fun g cs hb hc => gr6.block g (lt_of_block hc) (fun e => own_row_ne (World.ownsRow.alloc HROW.out _) (show Own _ g cs 128 from hc) (by decide) e.symm))
     have HNW := Lib.hid hnx
     have HK6' := Lib.hid hk6
     have HL6' := Lib.hid hl6
     clear hnx hk6 hl6 o6 gr6
     go_wp2_with fail
     go_roundw
     case rel => exact ⟨k + 1, HLT.out, by go_num, HNX1.out, by rw [HPK.out]; exact HL6'.out, by rw [HPK.out]; exact HNW.out, HK6'.out⟩
     case measure => (have hh := HLT.out; simp [intOf] <;> omega)
    ·have HB := Lib.hid (HB1.out (by rw [hlc]; decide))
     rw [hlc]
     obtain ⟨p5, c5, rfl⟩ := own_shape hrow5
     clear hrow5 hlc HB1 HNX k5 HLC
     go_wp2_with fail
     go_ret3
     exact ⟨Or.inr ⟨HB.out, 100, by decide, by decide, rfl⟩, HK5.out⟩
  ·obtain rfl : k = l.length := by omega
   have i1 : ¬ ((l.length : Nat) : Int) < l.length := by omega
   obtain ⟨p6, c6, rfl⟩ := hrecs.shape
   obtain ⟨pL, cL, rfl⟩ := own_shape hleft
   have HR := Lib.hid hrecs
   have HLF := Lib.hid hleft
   have HK := Lib.hid hK
   have HG : Hid (planOk RM l) := Lib.hid (fun j hj hb => hgood j hj hj hb)
   clear hrecs hleft hK hgood
   go_wp2_with fail
   go_ret3
   exact ⟨Or.inl ⟨HG.out, _, _, rfl, HR.out, HLF.out⟩, HK.out⟩
end Go.Proofs.YtdkimcnlhmhpgaaGreat
