/- -/
import Derived.Test.YtdkimcnlhmhpgaaGreatH09
import Derived.Test.YtdkimcnlhmhpgaaGreatH27
import Derived.Test.YtdkimcnlhmhpgaaGreatH31
import Derived.Test.YtdkimcnlhmhpgaaGreatH34
import Derived.Test.YtdkimcnlhmhpgaaGreatH35
set_option linter.unusedVariables false
set_option linter.unusedSimpArgs false
namespace Go.Proofs.YtdkimcnlhmhpgaaGreat
open Go.RowKit
def headC (nb nm : Nat) : List UInt8 := [67, 65, 84, 76] ++ numL nb 4 ++ numL nm 4
def bodyC (c : JCat) : List UInt8 := headC c.nextBox.toNat c.nextMan.toNat ++ (if catR c = [] then [] else txL (catR c))
def putC (c : JCat) : List UInt8 := sealL (bodyC c)
open Classical in
noncomputable def putOut (c : JCat) : List UInt8 × Int := if mayC c then (putC c, 0) else ([], 110)
def CPutSays (c : JCat) (w : World) (e : Ending) (w' : World) : Prop := e = .returned (.tuple #[.string (bs (putOut c).1), .int .i64 (putOut c).2]) ∧ Kept [] w w'
theorem cputSays_of {c : JCat} {s : List UInt8} {C : Int} {w w' : World} (h : putOut c = (s, C)) (k : Kept [] w w') : CPutSays c w (.returned (.tuple #[.string (bs s), .int .i64 C])) w' := by
 unfold CPutSays; rw [h]; exact ⟨rfl, k⟩
theorem catR_may {c : JCat} (h : mayC c) : ∀ r ∈ catR c, mayR r = true := by
 intro r hr
 unfold catR at hr
 simp only [List.mem_append, List.mem_map] at hr
 rcases hr with (⟨a, ha, rfl⟩ | ⟨a, ha, rfl⟩) | ⟨a, ha, rfl⟩
 ·exact h.boxes.2.1 a ha
 ·exact h.mans.2.1 a ha
 ·exact h.names.2.1 a ha
theorem catR_len (c : JCat) : (catR c).length = c.boxes.length + c.mans.length + c.names.length := by unfold catR; simp [Nat.add_assoc]
theorem catR_small {c : JCat} (h : SmallC c) : ∀ r ∈ catR c, r.runs.length ≤ 1000000 := by
 intro r hr
 unfold catR at hr
 simp only [List.mem_append, List.mem_map] at hr
 rcases hr with (⟨a, ha, rfl⟩ | ⟨a, ha, rfl⟩) | ⟨a, ha, rfl⟩
 ·exact h.1.2 a ha
 ·exact h.2.1.2 a ha
 ·exact h.2.2.2 a ha
theorem headC_len (nb nm : Nat) : (headC nb nm).length = 12 := by unfold headC; simp [numL_len]
set_option maxRecDepth 100000 in
set_option maxHeartbeats 4000000 in
theorem zput (v : Value) (c : JCat) (w : World) (h : CatIn w v c) (hc : SmallC c) (hlen : c.boxes.length + c.mans.length + c.names.length ≤ 3000) :
  Calls Tryz.prog 52 #[v] w (CPutSays c w) := by
 have HCH : Hid (∀ W, Kept [] w W → Calls Tryz.prog 97 #[v] W (ChkSays c W)) := Lib.hid (fun W q => zcheck v c W (h.kept0 q) hc)
 have HRC : Hid (∀ W, Kept [] w W → Calls Tryz.prog 110 #[v] W (RecsSays c W)) := Lib.hid (fun W q => zrecords v c W (h.kept0 q) (by omega))
 have HTX : Hid (∀ W u lo hi, RecsIn W u (catR c) lo hi → Calls Tryz.prog 46 #[u] W (TxSays (catR c) W)) := Lib.hid (fun W u lo hi hu => jtx u (catR c) lo hi W hu (by rw [catR_len]; omega) (catR_small hc))
 obtain ⟨vb, vm, vn, rfl, hb, hm, hn, hwb, hwm⟩ := h
 obtain ⟨p1, c1, rfl⟩ := hb.shape
 obtain ⟨p2, c2, rfl⟩ := hm.shape
 obtain ⟨p3, c3, rfl⟩ := hn.shape
 obtain ⟨b1, b2⟩ := bd32 hwb
 obtain ⟨b3, b4⟩ := bd32 hwm
 obtain ⟨nb, hnb⟩ := Int.eq_ofNat_of_zero_le b1
 obtain ⟨nm, hnm⟩ := Int.eq_ofNat_of_zero_le b3
 have hU1 : ∀ W, Calls Tryz.prog 102 #[.int .u32 c.nextBox] W fun e w' => e = .returned (.string (bs (numL nb 4))) ∧ Kept [] W w' := fun W => by rw [hnb]; exact packU32 nb W (by omega)
 have hU2 : ∀ W, Calls Tryz.prog 102 #[.int .u32 c.nextMan] W fun e w' => e = .returned (.string (bs (numL nm 4))) ∧ Kept [] W w' := fun W => by rw [hnm]; exact packU32 nm W (by omega)
 have HU1 := Lib.hid hU1
 have HU2 := Lib.hid hU2
 unfold ChkSays at HCH
 unfold RecsSays at HRC
 unfold TxSays at HTX
 have oA := Own.new w #[.int .u32 c.nextBox, .int .u32 c.nextMan, .slice p1 c.boxes.length c1, .slice p2 c.mans.length c2, .slice p3 c.names.length c3] 52
 have k0 : Kept [] w (w.alloc (.cells #[.int .u32 c.nextBox, .int .u32 c.nextMan, .slice p1 c.boxes.length c1, .slice p2 c.mans.length c2, .slice p3 c.names.length c3] 52)) := (Kept.refl _ _).alloc _
 obtain ⟨x0, x1, x2, x3, x4⟩ := oA.k5
 have OA := Lib.hid oA
 have K0 := Lib.hid k0
 have HLN := Lib.hid hlen
 clear oA k0 hb hm hn hwb hwm hc hU1 hU2 b1 b2 b3 b4 hlen
 have HTX4 : numL nb 4 = numL c.nextBox.toNat 4 ∧ numL nm 4 = numL c.nextMan.toNat 4 := by rw [hnb, hnm]; exact ⟨rfl, rfl⟩
 have HNU := Lib.hid HTX4
 clear hnb hnm HTX4
 by_cases hmc : mayC c
 ·have hck : chkX c = 0 := by unfold chkX; rw [if_pos hmc]
  have hpo : putOut c = (putC c, 0) := by unfold putOut; rw [if_pos hmc]
  obtain ⟨PRE, hP⟩ : ∃ P, P = headC c.nextBox.toNat c.nextMan.toNat := ⟨_, rfl⟩
  have hbody : bodyC c = PRE ++ (if catR c = [] then [] else txL (catR c)) := by unfold bodyC; rw [hP]
  have HPL : Hid (PRE.length = 12) := Lib.hid (by rw [hP]; exact headC_len _ _)
  have HP : Hid (bs (67 :: 65 :: 84 :: 76 :: numL nb 4) ++ bs (numL nm 4) = bs PRE) := Lib.hid (by rw [hP, bs_append]; unfold headC; rw [HNU.out.1, HNU.out.2]; rfl)
  clear hP
  have htx : catR c ≠ [] → txCode (catR c) = 0 ∧ txOut (catR c) = txL (catR c) := fun hne => by
   have hall := catR_may hmc
   exact tx_yes (l := catR c) (List.length_pos_iff.2 hne) (fun j hj => hall _ (List.getElem_mem hj))
  have hlen2 : (∀ r ∈ catR c, r.fits) → (txL (catR c)).length ≤ 700000 := fun hf => by
   have h1 := recs_len (l := catR c) (fun r hr => rec_ok (catR_may hmc r hr) (hf r hr))
   have h2 : (catR c).length ≤ 3000 := by rw [catR_len]; exact HLN.out
   unfold txL bodyL
   simp only [List.length_append, numL_len]
   omega
  rw [hck] at HCH
  have HPO := Lib.hid hpo
  have HBODY := Lib.hid hbody
  have HTXX := Lib.hid htx
  have HL2 := Lib.hid hlen2
  have HCL : Hid ((catR c).length ≤ 3000) := Lib.hid (by rw [catR_len]; exact HLN.out)
  clear hck hpo hmc hbody htx hlen2
  go_enter Tryz.func52, Tryz.ntmps52
  go_wp2_with fail
  refine (HCH.out _ K0.out).mono ?_; rintro e w2 ⟨rfl, k2⟩
  have K2 := Lib.hid (K0.out.trans k2)
  have OA2 := Lib.hid (k2.own OA.out (by simp))
  go_wp2_with fail
  refine wp_region_held_drew (S := (fun W => (W.cell? ⟨w.heap.size, 0, none⟩ = some (.int .u32 c.nextBox) ∧ W.cell? ⟨w.heap.size, 1, none⟩ = some (.int .u32 c.nextMan)))) (by kernel_rfl) (by exact ⟨OA2.out.drew.k5.1, OA2.out.drew.k5.2.1⟩) (fun hHeld => ?_)
  refine take_at (i := 0) (d := some 11) (v := ?_) rfl rfl (by kernel_rfl) (by kernel_rfl) (by kernel_rfl) (fun _ _ _ h => h) (Or.inl ⟨by rfl, ?_⟩) (by assumption) ?_
  rotate_left
  ·(intro w hSw; (try dsimp only at hSw); go_simp; try with_reducible rfl)
  try simp only [Act.put, List.setIfInBounds_toArray, List.set_cons_zero, List.set_cons_succ]
  refine take_at (i := 1) (d := some 12) (v := ?_) rfl rfl (by kernel_rfl) (by kernel_rfl) (by kernel_rfl) (fun _ _ _ h => h) (Or.inl ⟨by rfl, ?_⟩) (by assumption) ?_
  rotate_left
  ·(intro w hSw; (try dsimp only at hSw); go_simp; try with_reducible rfl)
  try simp only [Act.put, List.setIfInBounds_toArray, List.set_cons_zero, List.set_cons_succ]
  refine take_at (i := 4) (d := some 15) (v := ?_) rfl rfl (by kernel_rfl) (by kernel_rfl) (by kernel_rfl) (fun _ _ _ h => h) (Or.inl ⟨by rfl, ?_⟩) (by assumption) ?_
  rotate_left
  ·(intro w hSw; (try dsimp only at hSw); go_simp; try with_reducible rfl)
  try simp only [Act.put, List.setIfInBounds_toArray, List.set_cons_zero, List.set_cons_succ]
  refine take_at (i := 5) (d := some 16) (v := ?_) rfl rfl (by kernel_rfl) (by kernel_rfl) (by kernel_rfl) (fun _ _ _ h => h) (Or.inl ⟨by rfl, ?_⟩) (by assumption) ?_
  rotate_left
  ·(intro w hSw; (try dsimp only at hSw); go_simp; try with_reducible rfl)
  try simp only [Act.put, List.setIfInBounds_toArray, List.set_cons_zero, List.set_cons_succ]
  refine wpAnyH_ready (rs := [2]) (by kernel_rfl) (by simp) ?_
  refine (AllReadyH.cons rfl (fun K hK => ?_) AllReadyH.nil)
  go_simp
  ((with_reducible refine (HU1.out _).mono ?_)); rintro e w3 ⟨rfl, k3⟩
  have OA3 := Lib.hid (k3.own OA2.out.drew (by simp))
  have K3 := Lib.hid (K2.out.drew.trans k3)
  go_wp2_with fail
  refine hK.out _ _ ?_ (fun hHeld => ?_)
  ·exact ⟨OA3.out.k5.1, OA3.out.k5.2.1⟩
  clear hK K
  try simp only [Act.put, List.setIfInBounds_toArray, List.set_cons_zero, List.set_cons_succ]
  refine take_at (i := 3) (d := some 14) (v := .string (bs ([67, 65, 84, 76] ++ numL nb 4))) rfl rfl (by kernel_rfl) (by kernel_rfl) (by kernel_rfl) (fun _ _ _ h => h) (Or.inl ⟨by rfl, ?_⟩) (by assumption) ?_
  ·(intro w hSw; go_simp; rw [if_neg (by rw [bs_size, numL_len]; omega)]; exact congrArg (fun x => Result.ok (Next.value (Value.string x)) w) (bs_append [67, 65, 84, 76] (numL nb 4)))
  try simp only [Act.put, List.setIfInBounds_toArray, List.set_cons_zero, List.set_cons_succ]
  refine wpAnyH_ready (rs := [6]) (by kernel_rfl) (by simp) ?_
  refine (AllReadyH.cons rfl (fun K hK => ?_) AllReadyH.nil)
  go_simp
  ((with_reducible refine (HU2.out _).mono ?_)); rintro e w4 ⟨rfl, k4⟩
  have OA4 := Lib.hid (k4.own OA3.out (by simp))
  have K4 := Lib.hid (K3.out.trans k4)
  go_wp2_with fail
  refine hK.out _ _ ?_ (fun hHeld => ?_)
  ·exact ⟨OA4.out.k5.1, OA4.out.k5.2.1⟩
  clear hK K
  try simp only [Act.put, List.setIfInBounds_toArray, List.set_cons_zero, List.set_cons_succ]
  refine take_at (i := 7) (d := some 18) (v := .string (bs PRE)) rfl rfl (by kernel_rfl) (by kernel_rfl) (by kernel_rfl) (fun _ _ _ h => h) (Or.inl ⟨by rfl, ?_⟩) (by assumption) ?_
  ·(intro w hSw; go_simp; rw [if_neg (by rw [bs_size, bs_size, numL_len]; simp only [List.length_cons, numL_len]; omega)]; exact congrArg (fun x => Result.ok (Next.value (Value.string x)) w) HP.out)
  try simp only [Act.put, List.setIfInBounds_toArray, List.set_cons_zero, List.set_cons_succ]
  refine take_at (i := 8) (d := some 4) (v := ?_) rfl rfl (by kernel_rfl) (by kernel_rfl) (by kernel_rfl) (fun _ _ _ h => h) (Or.inl ⟨by rfl, ?_⟩) (by assumption) ?_
  rotate_left
  ·(intro w hSw; (try dsimp only at hSw); go_simp; try with_reducible rfl)
  try simp only [Act.put, List.setIfInBounds_toArray, List.set_cons_zero, List.set_cons_succ]
  refine wpAnyH_done (by kernel_rfl) ?_ _
  have hx := OA4.out.k5
  obtain ⟨x0, x1, x2, x3, x4⟩ := hx
  go_wp2_with fail
  refine (HRC.out _ K4.out).mono ?_; rintro e w5 ⟨u, rfl, hu, k5⟩
  have K5 := Lib.hid (K4.out.trans k5)
  obtain ⟨pu, cu, rfl⟩ := RowsOf.shape hu
  have hfit : ∀ r ∈ catR c, r.fits := fun r hr => by
   obtain ⟨i, hi, rfl⟩ := List.getElem_of_mem hr
   obtain ⟨_, _, _, _, _, _, _, _, _, _, hf, _⟩ := RecsIn.at_ hu i hi
   exact hf
  have HTL := Lib.hid (HL2.out hfit)
  have HU := Lib.hid hu
  by_cases h0 : catR c = []
  ·have hlen0 : (catR c).length = 0 := by rw [h0]; rfl
   have hb := HBODY.out
   rw [if_pos h0, List.append_nil] at hb
   have HB := Lib.hid hb
   have HSL : Hid (∀ W, Calls Tryz.prog 111 #[.string (bs PRE)] W fun e w' => e = .returned (.string (bs (sealL PRE))) ∧ Kept [] W w') := Lib.hid (fun W => cseal PRE W (by have := HPL.out; omega))
   clear hu hfit hb h0
   rw [hlen0]
   clear hlen0
   go_wp2_with fail
   refine (HSL.out _).mono ?_; rintro e w6 ⟨rfl, k6⟩
   go_wp2_with fail
   go_ret2
   exact cputSays_of (by rw [HPO.out]; unfold putC; rw [HB.out]) (K5.out.trans k6)
  ·have hp : 0 < (catR c).length := List.length_pos_iff.2 h0
   have hp1 : (0 : Int) < (catR c).length := by omega
   have hp2 : ((catR c).length : Int) ≤ 3000 := by have := HCL.out; omega
   obtain ⟨t1, t2⟩ := HTXX.out h0
   have hb := HBODY.out
   rw [if_neg h0] at hb
   have hT := HTX.out w5 (.slice pu (catR c).length cu) _ _ hu
   rw [t1, t2] at hT
   obtain ⟨TX, hTX⟩ : ∃ T, T = txL (catR c) := ⟨_, rfl⟩
   rw [← hTX] at hT hb
   have htl := HTL.out
   rw [← hTX] at htl
   have HT := Lib.hid hT
   have HB := Lib.hid hb
   have hz1 : (bs PRE).size = 12 := by rw [bs_size]; exact HPL.out
   have hz2 : (bs TX).size ≤ 700000 := by rw [bs_size]; exact htl
   have HBA : Hid (bs PRE ++ bs TX = bs (PRE ++ TX)) := Lib.hid (bs_append _ _)
   have HSL : Hid (∀ W, Calls Tryz.prog 111 #[.string (bs (PRE ++ TX))] W fun e w' => e = .returned (.string (bs (sealL (PRE ++ TX)))) ∧ Kept [] W w') := Lib.hid (fun W => cseal (PRE ++ TX) W (by have := HPL.out; rw [List.length_append]; omega))
   clear hu hfit hb h0 hp hT hTX htl t1 t2
   generalize (catR c).length = n at *
   go_wp2_with fail
   refine (HT.out).mono ?_; rintro e w6 ⟨rfl, k6⟩
   go_wp2_with fail
   rw [HBA.out]
   refine (HSL.out _).mono ?_; rintro e w7 ⟨rfl, k7⟩
   go_wp2_with fail
   go_ret2
   exact cputSays_of (by rw [HPO.out]; unfold putC; rw [HB.out]) ((K5.out.trans k6).trans k7)
 ·have hck : chkX c = 110 := by unfold chkX; rw [if_neg hmc]
  have hpo : putOut c = ([], 110) := by unfold putOut; rw [if_neg hmc]
  rw [hck] at HCH
  have HPO := Lib.hid hpo
  clear hck hpo hmc
  go_enter Tryz.func52, Tryz.ntmps52
  go_wp2_with fail
  refine (HCH.out _ K0.out).mono ?_; rintro e w2 ⟨rfl, k2⟩
  go_wp2_with fail
  go_ret2
  exact cputSays_of HPO.out (K0.out.trans k2)
set_option maxRecDepth 100000 in
set_option maxHeartbeats 4000000 in
theorem zcatRuns (v : Value) (c : JCat) (w : World) (h : CatIn w v c) (hlen : c.boxes.length + c.mans.length + c.names.length ≤ 5000) (htot : (runsC c).length ≤ 1000000) :
  Calls Tryz.prog 115 #[v] w (GivesR (runsC c) w) := by
 have HRC : Hid (∀ W, Kept [] w W → Calls Tryz.prog 110 #[v] W (RecsSays c W)) := Lib.hid (fun W q => zrecords v c W (h.kept0 q) (by omega))
 unfold RecsSays at HRC
 obtain ⟨vb, vm, vn, rfl, hb, hm, hn, _⟩ := h
 obtain ⟨p1, c1, rfl⟩ := hb.shape
 obtain ⟨p2, c2, rfl⟩ := hm.shape
 obtain ⟨p3, c3, rfl⟩ := hn.shape
 have oA := Own.new w #[.int .u32 c.nextBox, .int .u32 c.nextMan, .slice p1 c.boxes.length c1, .slice p2 c.mans.length c2, .slice p3 c.names.length c3] 52
 have k0 : Kept [] w (w.alloc (.cells #[.int .u32 c.nextBox, .int .u32 c.nextMan, .slice p1 c.boxes.length c1, .slice p2 c.mans.length c2, .slice p3 c.names.length c3] 52)) := (Kept.refl _ _).alloc _
 obtain ⟨x0, x1, x2, x3, x4⟩ := oA.k5
 have K0 := Lib.hid k0
 have HLN : Hid ((catR c).length ≤ 5000) := Lib.hid (by rw [catR_len]; exact hlen)
 have HTOT : Hid (∀ k, (((catR c).take k).map (·.runs)).flatten.length ≤ 1000000) := Lib.hid (fun k => by
  refine Nat.le_trans ?_ htot
  unfold runsC
  conv => rhs; rw [← List.take_append_drop k (catR c), List.map_append, List.flatten_append, List.length_append]
  omega)
 have HEQ : Hid (runsC c = ((catR c).map (·.runs)).flatten) := Lib.hid rfl
 clear oA k0 hb hm hn hlen htot
 generalize catR c = L at *
 unfold GivesR
 generalize runsC c = RC at *
 go_enter Tryz.func115, Tryz.ntmps115
 go_wp2_with fail
 refine (HRC.out _ K0.out).mono ?_; rintro e w2 ⟨u, rfl, hu, k2⟩
 have K2 := Lib.hid (K0.out.trans k2)
 obtain ⟨pu, cu, rfl⟩ := RowsOf.shape hu
 have HU := Lib.hid hu
 have hL1 : (L.length : Int) ≤ 5000 := by have := HLN.out; omega
 clear hu
 go_wp2_with fail
 go_loopw [3, 9] (fun o i wr => ∃ k : Nat, k ≤ L.length ∧ i = .int .i64 k ∧ wr.ownsRow w2.heap.size 128 2 o ((L.take k).map (·.runs)).flatten.length (rcells ((L.take k).map (·.runs)).flatten) ∧ Kept [] w2 wr) (fun _ i _ => L.length - (intOf i).toNat)
 case atStart => exact ⟨0, Nat.zero_le _, rfl, World.ownsRow_nil _ _ _ _, Kept.refl _ _⟩
 case round =>
  obtain ⟨k, hk, rfl, hrow, hK⟩ := hrel
  by_cases hlt : k < L.length
  ·have i1 : (k : Int) < L.length := by omega
   obtain ⟨b, off, kv, rfl, r0, r1, r2, r3, r4, hrun, hfit, hlb, hbh, hih⟩ := RecsIn.at_ (HU.out.kept0 hK) k hlt
   have htk : ((L.take (k + 1)).map (·.runs)).flatten = ((L.take k).map (·.runs)).flatten ++ (L[k]'hlt).runs := by
    rw [List.take_succ_eq_append_getElem hlt, List.map_append, List.flatten_append]; simp
   have ht1 := HTOT.out (k + 1)
   rw [htk, List.length_append] at ht1
   obtain ⟨pr, cr, rfl⟩ := hrun.shape
   obtain ⟨po, co, rfl⟩ := own_shape hrow
   have HLT := Lib.hid hlt
   have HTK := Lib.hid htk
   have HT1 := Lib.hid ht1
   have HRUN := Lib.hid (hrun.kept0 ((Kept.refl [] wr).alloc (.cells #[.int .i64 (L[k]'hlt).kind, .int .u32 (L[k]'hlt).id, .string (bs (L[k]'hlt).name), .int .i64 (L[k]'hlt).size, .slice pr (L[k]'hlt).runs.length cr] 102)))
   have HROW := Lib.hid (World.ownsRow.alloc hrow (.cells #[.int .i64 (L[k]'hlt).kind, .int .u32 (L[k]'hlt).id, .string (bs (L[k]'hlt).name), .int .i64 (L[k]'hlt).size, .slice pr (L[k]'hlt).runs.length cr] 102))
   have HKA := Lib.hid (hK.alloc (.cells #[.int .i64 (L[k]'hlt).kind, .int .u32 (L[k]'hlt).id, .string (bs (L[k]'hlt).name), .int .i64 (L[k]'hlt).size, .slice pr (L[k]'hlt).runs.length cr] 102))
   have oR := Own.new wr #[.int .i64 (L[k]'hlt).kind, .int .u32 (L[k]'hlt).id, .string (bs (L[k]'hlt).name), .int .i64 (L[k]'hlt).size, .slice pr (L[k]'hlt).runs.length cr] 102
   obtain ⟨y0, y1, y2, y3, y4⟩ := oR.k5
   clear hrun hfit hlb hbh hih htk ht1 hrow oR
   generalize hLR : (L[k]'hlt) = R at *
   clear hLR hlt
   generalize ((L.take k).map (·.runs)).flatten = F at *
   go_wp2_with (at_builtin; go_must (refine wpList_append_runs rfl (.tmp 13) (.tmp 15) rfl w2.heap.size _ _ _ rfl HROW.out _ R.runs _ _ rfl HRUN.out (by have := HT1.out; unfold maxLen; omega) (by have := HT1.out; omega) (by have := HKA.out.size; omega) ?_))
   intro v' w5 hown hgrow
   have HOW := Lib.hid hown
   have HK5 := Lib.hid (HKA.out.grown hgrow (fun q hq => Or.inr (World.ownsRow.lt HROW.out q hq).1))
   obtain ⟨p5, c5, rfl⟩ := own_shape hown
   clear hown hgrow
   go_wp2_with fail
   go_roundw
   case rel => exact ⟨k + 1, HLT.out, by go_num, by rw [HTK.out, List.length_append, show rcells (F ++ R.runs) = rcells F ++ rcells R.runs from by simp [rcells]]; exact HOW.out, HK5.out⟩
   case measure => (have h := HLT.out; simp [intOf]; omega)
  ·obtain rfl : k = L.length := by omega
   rw [List.take_length, ← HEQ.out] at hrow
   obtain ⟨po, co, rfl⟩ := own_shape hrow
   have i1 : ¬ (L.length : Int) < L.length := by omega
   have hfin := ownsRow_base hrow K2.out.size
   have HF := Lib.hid hfin
   have HKF := Lib.hid (K2.out.trans hK)
   clear hrow hfin hK
   go_wp2_with fail
   go_ret
   exact ⟨_, rfl, HF.out, HKF.out⟩
structure VC where
 kind : Int
 id : Int
 name : List UInt8
 bytes : List UInt8
def VC.told (x : VC) : JRec := ⟨x.kind, x.id, x.name, 0, []⟩
def roomX (v : VS) : List (Int × Int) := minusL [(2 + v.s.journal, v.s.sectors - (2 + v.s.journal))] (runsC v.c ++ v.s.runs)
noncomputable def wrongX (c : JCat) (l : List VC) : Int := if l.length < 1 ∨ 8192 < l.length then 3 else if l.all (fun x => kBlob x.kind || x.bytes.isEmpty) then (applyX c (l.map VC.told)).2 else 1
def plan1 (s : List JRec × List (Int × Int)) (x : VC) : List JRec × List (Int × Int) :=
 if kBlob x.kind then (s.1 ++ [⟨x.kind, x.id, x.name, x.bytes.length, lowestL s.2 (need x.bytes.length)⟩], minusL s.2 (lowestL s.2 (need x.bytes.length))) else (s.1 ++ [x.told], s.2)
def planAt (left : List (Int × Int)) (l : List VC) (k : Nat) : List JRec × List (Int × Int) := (l.take k).foldl plan1 ([], left)
def planOk (left : List (Int × Int)) (l : List VC) : Prop := ∀ k (h : k < l.length), kBlob l[k].kind = true → lowCode (planAt left l k).2 (need l[k].bytes.length) = 0
theorem planAt_succ (left : List (Int × Int)) (l : List VC) (k : Nat) (h : k < l.length) : planAt left l (k + 1) = plan1 (planAt left l k) l[k] := by
 unfold planAt
 rw [List.take_succ_eq_append_getElem h, List.foldl_append]
 rfl
theorem planAt_len (left : List (Int × Int)) (l : List VC) : ∀ k, k ≤ l.length → (planAt left l k).1.length = k
 | 0, _ => rfl
 | k + 1, h => by
  rw [planAt_succ left l k (by omega)]
  have := planAt_len left l k (by omega)
  unfold plan1
  split <;> simp [this]
def chainV : List (VS → VS × Int) → VS → VS × Int
 | [], d => (d, 0)
 | f :: fs, d => if (f d).2 = 0 then chainV fs (f d).1 else f d
def stV (fs : List (VS → VS × Int)) (d : VS) (k : Nat) : VS := (fs.take k).foldl (fun x f => (f x).1) d
theorem stV_succ (fs : List (VS → VS × Int)) (d : VS) (k : Nat) (h : k < fs.length) : stV fs d (k + 1) = (fs[k] (stV fs d k)).1 := by
 unfold stV
 rw [List.take_succ_eq_append_getElem h, List.foldl_append]
 rfl
theorem chainV_stop : ∀ (fs : List (VS → VS × Int)) (d : VS) (k : Nat) (h : k < fs.length), (∀ i (hi : i < k), ((fs[i]'(by omega)) (stV fs d i)).2 = 0) → (fs[k] (stV fs d k)).2 ≠ 0 → chainV fs d = fs[k] (stV fs d k)
 | [], d, k, h, _, _ => by simp at h
 | f :: fs, d, 0, h, _, h2 => by
  have h2' : (f d).2 ≠ 0 := h2
  show (if (f d).2 = 0 then _ else f d) = f d
  rw [if_neg h2']
 | f :: fs, d, k + 1, h, h1, h2 => by
  have h3 : (f d).2 = 0 := h1 0 (by omega)
  show (if (f d).2 = 0 then chainV fs (f d).1 else f d) = _
  rw [if_pos h3]
  exact chainV_stop fs (f d).1 k (by simpa using h) (fun i hi => h1 (i + 1) (by omega)) h2
theorem chainV_end : ∀ (fs : List (VS → VS × Int)) (d : VS), (∀ i (hi : i < fs.length), (fs[i] (stV fs d i)).2 = 0) → chainV fs d = (stV fs d fs.length, 0)
 | [], d, _ => rfl
 | f :: fs, d, h1 => by
  have h3 : (f d).2 = 0 := h1 0 (by simp)
  show (if (f d).2 = 0 then chainV fs (f d).1 else f d) = _
  rw [if_pos h3]
  exact chainV_end fs (f d).1 (fun i hi => h1 (i + 1) (by simpa using hi))
def onD (f : DK → DK × Int) (v : VS) : VS × Int := (⟨(f v.d).1, v.s, v.c, v.dead⟩, (f v.d).2)
def nextS (s : SB) (used : Int) : SB := ⟨s.seq + 1, s.sectors, s.journal, used, s.size, s.runs⟩
def baseS (s : SB) (size : Int) (runs : List (Int × Int)) : SB := ⟨s.seq + 1, s.sectors, s.journal, 0, size, runs⟩
def appendX (c : JCat) (tx : List UInt8) (v : VS) : VS × Int :=
 if (appendD v.d v.s.journal v.s.used tx).2 = 0 then
  (if (chainD [stepF, layD (nextS v.s (v.s.used + tx.length))] (appendD v.d v.s.journal v.s.used tx).1).2 = 0
  then (⟨(chainD [stepF, layD (nextS v.s (v.s.used + tx.length))] (appendD v.d v.s.journal v.s.used tx).1).1, nextS v.s (v.s.used + tx.length), c, v.dead⟩, 0)
  else (⟨(chainD [stepF, layD (nextS v.s (v.s.used + tx.length))] (appendD v.d v.s.journal v.s.used tx).1).1, v.s, v.c, v.dead⟩, (chainD [stepF, layD (nextS v.s (v.s.used + tx.length))] (appendD v.d v.s.journal v.s.used tx).1).2))
 else (⟨(appendD v.d v.s.journal v.s.used tx).1, v.s, v.c, v.dead⟩, (appendD v.d v.s.journal v.s.used tx).2)
noncomputable def setD (s : SB) (t : List UInt8) (runs : List (Int × Int)) (d : DK) : DK × Int := chainD [fun d => putX d runs t, stepF, layD (baseS s t.length runs)] d
noncomputable def settleX (c : JCat) (t : List UInt8) (runs : List (Int × Int)) (v : VS) : VS × Int :=
 if (setD v.s t runs v.d).2 = 0 then (⟨(setD v.s t runs v.d).1, baseS v.s t.length runs, c, v.dead⟩, 0) else (⟨(setD v.s t runs v.d).1, v.s, v.c, v.dead⟩, (setD v.s t runs v.d).2)
def tellX (p : VS × Int) : VS × Int := (⟨p.1.d, p.1.s, p.1.c, p.1.dead || p.2 == 90⟩, p.2)
noncomputable def putsD : List VC → List JRec → List (DK → DK × Int)
 | x :: l, r :: recs => if kBlob x.kind then (fun d => putX d r.runs x.bytes) :: putsD l recs else putsD l recs
 | _, _ => []
noncomputable def putsX (l : List VC) (recs : List JRec) : List (VS → VS × Int) := (putsD l recs).map onD
theorem chainV_append : ∀ (fs gs : List (VS → VS × Int)) (v : VS), chainV (fs ++ gs) v = if (chainV fs v).2 = 0 then chainV gs (chainV fs v).1 else chainV fs v
 | [], gs, v => rfl
 | f :: fs, gs, v => by
  show (if (f v).2 = 0 then chainV (fs ++ gs) (f v).1 else f v) = _
  have e : chainV (f :: fs) v = if (f v).2 = 0 then chainV fs (f v).1 else f v := rfl
  rw [e]
  by_cases h : (f v).2 = 0
  ·rw [if_pos h, if_pos h, chainV_append fs gs]
  ·rw [if_neg h, if_neg h, if_neg h]
theorem chainV_onD : ∀ (fs : List (DK → DK × Int)) (v : VS), chainV (fs.map onD) v = onD (chainD fs) v
 | [], v => rfl
 | f :: fs, v => by
  show (if (onD f v).2 = 0 then chainV (fs.map onD) (onD f v).1 else onD f v) = _
  rw [chainV_onD fs]
  have e : chainD (f :: fs) v.d = if (f v.d).2 = 0 then chainD fs (f v.d).1 else f v.d := rfl
  show _ = ((⟨(chainD (f :: fs) v.d).1, v.s, v.c, v.dead⟩ : VS), (chainD (f :: fs) v.d).2)
  rw [e]
  by_cases h : (f v.d).2 = 0
  ·rw [if_pos h, if_pos (show (onD f v).2 = 0 from h)]; rfl
  ·rw [if_neg h, if_neg (show ¬ (onD f v).2 = 0 from h)]; rfl
open Classical in
noncomputable def changeX (v : VS) (l : List VC) : VS × Int :=
 if v.dead = true then (v, 90)
 else if wrongX v.c l ≠ 0 then (v, wrongX v.c l)
 else if ¬ planOk (roomX v) l then (v, 100)
 else if (applyX v.c (planAt (roomX v) l l.length).1).2 ≠ 0 then (v, (applyX v.c (planAt (roomX v) l l.length).1).2)
 else if txCode (planAt (roomX v) l l.length).1 ≠ 0 then (v, txCode (planAt (roomX v) l l.length).1)
 else if ((txOut (planAt (roomX v) l l.length).1).length : Int) ≤ v.s.journal * 128 - v.s.used then
  tellX (chainV (putsX l (planAt (roomX v) l l.length).1 ++ [onD stepF, appendX (applyX v.c (planAt (roomX v) l l.length).1).1 (txOut (planAt (roomX v) l l.length).1)]) v)
 else if (putOut (applyX v.c (planAt (roomX v) l l.length).1).1).2 ≠ 0 then (v, (putOut (applyX v.c (planAt (roomX v) l l.length).1).1).2)
 else if lowCode (planAt (roomX v) l l.length).2 (need (putOut (applyX v.c (planAt (roomX v) l l.length).1).1).1.length) ≠ 0 then (v, 100)
 else tellX (chainV (putsX l (planAt (roomX v) l l.length).1 ++ [settleX (applyX v.c (planAt (roomX v) l l.length).1).1 (putOut (applyX v.c (planAt (roomX v) l l.length).1).1).1 (lowestL (planAt (roomX v) l l.length).2 (need (putOut (applyX v.c (planAt (roomX v) l l.length).1).1).1.length))]) v)
noncomputable def checkpointX (v : VS) : VS × Int :=
 if v.dead = true then (v, 90)
 else if (putOut v.c).2 ≠ 0 then (v, (putOut v.c).2)
 else if lowCode (roomX v) (need (putOut v.c).1.length) ≠ 0 then (v, 100)
 else tellX (settleX v.c (putOut v.c).1 (lowestL (roomX v) (need (putOut v.c).1.length)) v)
def askX (c : JCat) (k id : Int) (nm : List UInt8) : JItem × Bool := if k = 1 then findX (fun x => x.id == id) c.boxes else if k = 2 then findX (fun x => x.id == id) c.mans else findX (fun x => x.name == nm) c.names
noncomputable def readX (v : VS) (k id : Int) (nm : List UInt8) : List UInt8 × Int × VS :=
 if v.dead = true then ([], 90, v)
 else if ¬ (k = 1 ∨ k = 2 ∨ k = 3) then ([], 1, v)
 else if (askX v.c k id nm).2 = false then ([], 6, v)
 else (getX v.d (askX v.c k id nm).1.runs (askX v.c k id nm).1.size, getCode v.d (askX v.c k id nm).1.runs (askX v.c k id nm).1.size, ⟨v.d, v.s, v.c, getCode v.d (askX v.c k id nm).1.runs (askX v.c k id nm).1.size == 90⟩)
structure VFit (m : Nat) (v : VS) : Prop where
 may : v.s.may
 cat : mayC v.c
 few : v.c.boxes.length + v.c.mans.length + v.c.names.length ≤ m
 seq : v.s.seq ≤ m
 jr : v.s.journal ≤ 30
theorem runsC_len {c : JCat} (h : mayC c) : (runsC c).length ≤ 16 * (c.boxes.length + c.mans.length + c.names.length) := by
 have h1 := catR_may h
 have h2 := catR_len c
 unfold runsC
 generalize catR c = l at *
 rw [← h2]
 clear h2
 induction l with
 | nil => simp
 | cons r t ih =>
  have h3 := may_runs (h1 r (by simp))
  have h4 := ih (fun q hq => h1 q (by simp [hq]))
  simp only [List.map_cons, List.flatten_cons, List.length_append, List.length_cons]
  omega
theorem Own.c13 {w : World} {b : Nat} {x0 x1 x2 x3 x4 x5 x6 x7 x8 x9 x10 x11 x12 : Value} {t : TypeId} (h : Own w b #[x0, x1, x2, x3, x4, x5, x6, x7, x8, x9, x10, x11, x12] t) : w.cell? ⟨b, 0, none⟩ = some x0 ∧ w.cell? ⟨b, 1, none⟩ = some x1 ∧ w.cell? ⟨b, 2, none⟩ = some x2 ∧ w.cell? ⟨b, 3, none⟩ = some x3 ∧ w.cell? ⟨b, 4, none⟩ = some x4 ∧ w.cell? ⟨b, 5, none⟩ = some x5 ∧ w.cell? ⟨b, 6, none⟩ = some x6 ∧ w.cell? ⟨b, 7, none⟩ = some x7 ∧ w.cell? ⟨b, 8, none⟩ = some x8 ∧ w.cell? ⟨b, 9, none⟩ = some x9 ∧ w.cell? ⟨b, 10, none⟩ = some x10 ∧ w.cell? ⟨b, 11, none⟩ = some x11 ∧ w.cell? ⟨b, 12, none⟩ = some x12 :=
 ⟨h.cell 0 (by simp), h.cell 1 (by simp), h.cell 2 (by simp), h.cell 3 (by simp), h.cell 4 (by simp), h.cell 5 (by simp), h.cell 6 (by simp), h.cell 7 (by simp), h.cell 8 (by simp), h.cell 9 (by simp), h.cell 10 (by simp), h.cell 11 (by simp), h.cell 12 (by simp)⟩
theorem Own.s12 {w : World} {b : Nat} {x0 x1 x2 x3 x4 x5 x6 x7 x8 x9 x10 x11 x12 : Value} {t : TypeId} (h : Own w b #[x0, x1, x2, x3, x4, x5, x6, x7, x8, x9, x10, x11, x12] t) (u : Value) : Own (w.setCell ⟨b, 12, none⟩ u) b #[x0, x1, x2, x3, x4, x5, x6, x7, x8, x9, x10, x11, u] t := h.set 12 u
theorem OffD.toB {T : List Nat} {w : World} {b sb mb g B : Nat} (h : OffD T w b sb mb g) (hB : B ∈ T) : OffD [B] w b sb mb g := h.mono (fun x hx => by
 obtain rfl : x = B := by simpa using hx
 exact hB)
theorem PK.toT {T : List Nat} {b sb mb B : Nat} {w w' : World} (h : PK [B] b sb mb w w') (hB : B ∈ T) : PK T b sb mb w w' := h.mono (fun x hx => by
 obtain rfl : x = B := by simpa using hx
 exact hB)
theorem DiskAt.keepV {w w' : World} {b sb mb lo B : Nat} {d : DK} {cs : Array Value} (h : DiskAt w b sb mb lo d) (k : Kept [B] w w') (hB : OffD [] w b sb mb B) (o : Own w B cs 90) : DiskAt w' b sb mb lo d := by
 obtain ⟨wv, n, ob, os, hwr, hm, hn, h2, h3, h4, h5, h6, r⟩ := h
 obtain ⟨_, n1, n2, n3, _⟩ := hB
 exact ⟨wv, n, k.own ob (by simp only [List.mem_singleton]; exact fun e => n1 e.symm), k.own os (by simp only [List.mem_singleton]; exact fun e => n2 e.symm), ownsRow_keptO hwr k o (by decide), hm.kept k (by simp only [List.mem_singleton]; exact fun e => n3 e.symm), hn, h2, h3, h4, h5, Nat.le_trans h6 k.size, r⟩
section
variable {T : List Nat} {w w' : World} {B b sb mb lo : Nat} {v : VS}
theorem VolAt.b_lt (h : VolAt T w B b sb mb lo v) : b < w.heap.size := h.da.b_lt
theorem VolAt.B_lt (h : VolAt T w B b sb mb lo v) : B < w.heap.size := h.hT B h.hB
theorem VolAt.keep0 (h : VolAt T w B b sb mb lo v) (k : Kept [] w w') : VolAt T w' B b sb mb lo v :=
 h.pk (S := []) (k.pk0 h.b_lt) (h.da.keep0 k) (fun x hx => by cases hx) (by simp)
theorem VolAt.pkB (h : VolAt T w B b sb mb lo v) (k : Kept [B] w w') : PK T b sb mb w w' :=
 k.pk h.b_lt (fun x hx => by
  obtain rfl : x = B := by simpa using hx
  exact ⟨h.off.2.1, Or.inl h.hB⟩)
theorem VolAt.pkB1 (h : VolAt T w B b sb mb lo v) (k : Kept [B] w w') : PK [B] b sb mb w w' :=
 k.pk h.b_lt (fun x hx => by
  obtain rfl : x = B := by simpa using hx
  exact ⟨h.off.2.1, Or.inl List.mem_cons_self⟩)
theorem VolAt.setV (h : VolAt T w B b sb mb lo v) (k : Kept [B] w w') {s : SB} {c : JCat} {dead : Bool} {sv vb vm vn : Value} (o : Own w' B (volCells b s sv c vb vm vn dead) 90) (hr : RunsO T w b sb mb sv s.runs) (hc : CatO T w b sb mb (.agg #[.int .u32 c.nextBox, .int .u32 c.nextMan, vb, vm, vn]) c) :
  VolAt T w' B b sb mb lo ⟨v.d, s, c, dead⟩ := by
 obtain ⟨sv0, vb0, vm0, vn0, o0, _, _⟩ := h.vol
 have hk := h.pkB k
 exact ⟨⟨h.da.disk.keepV k h.off o0, h.da.fit⟩, ⟨sv, vb, vm, vn, o, hr.pk hk, hc.pk hk⟩, h.hB, fun x hx => Nat.lt_of_lt_of_le (h.hT x hx) k.size, ⟨by simp, h.off.2.1, h.off.2.2.1, h.off.2.2.2.1, fun hx => h.off.2.2.2.2 ((WB.of_cell (k.cell (a := ⟨b, 1, none⟩) h.b_lt (by simp only [List.mem_singleton]; exact fun e => h.off.2.1 e.symm))).1 hx)⟩⟩
end
end Go.Proofs.YtdkimcnlhmhpgaaGreat
