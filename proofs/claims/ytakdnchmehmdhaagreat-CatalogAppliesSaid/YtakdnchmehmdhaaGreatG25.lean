/- Layer 21 (catalog): a catalog's bytes, and all its runs, as the program does it. -/
import Derived.Test.YtakdnchmehmdhaaGreatG09
import Derived.Test.YtakdnchmehmdhaaGreatG19
import Derived.Test.YtakdnchmehmdhaaGreatG20
import Derived.Test.YtakdnchmehmdhaaGreatG23
import Derived.Test.YtakdnchmehmdhaaGreatG24
namespace Go.Proofs.YtakdnchmehmdhaaGreat
open Go.RowKit
set_option linter.unusedVariables false
set_option linter.unusedSimpArgs false

/-- a catalog's bytes. -/
def headC (nb nm : Nat) : List UInt8 := [67, 65, 84, 76] ++ numL nb 4 ++ numL nm 4
def bodyC (c : JCat) : List UInt8 := headC c.nextBox.toNat c.nextMan.toNat ++ (if catR c = [] then [] else txL (catR c))
def putC (c : JCat) : List UInt8 := sealL (bodyC c)
open Classical in
noncomputable def putOut (c : JCat) : List UInt8 × Int := if mayC c then (putC c, 0) else ([], 110)
def CPutSays (c : JCat) (w : World) (e : Ending) (w' : World) : Prop := e = .returned (.tuple #[.string (bs (putOut c).1), .int .i64 (putOut c).2]) ∧ Kept [] w w'
theorem cputSays_of {c : JCat} {s : List UInt8} {C : Int} {w w' : World} (h : putOut c = (s, C)) (k : Kept [] w w') : CPutSays c w (.returned (.tuple #[.string (bs s), .int .i64 C])) w' := by
  unfold CPutSays; rw [h]; exact ⟨rfl, k⟩
theorem catR_may {c : JCat} (h : mayC c) : ∀ r ∈ catR c, mayR r = true := by
  intro r hr
  unfold catR at hr
  simp only [List.mem_append, List.mem_map] at hr
  rcases hr with (⟨a, ha, rfl⟩ | ⟨a, ha, rfl⟩) | ⟨a, ha, rfl⟩
  · exact h.boxes.2.1 a ha
  · exact h.mans.2.1 a ha
  · exact h.names.2.1 a ha
theorem catR_len (c : JCat) : (catR c).length = c.boxes.length + c.mans.length + c.names.length := by unfold catR; simp [Nat.add_assoc]
theorem catR_small {c : JCat} (h : SmallC c) : ∀ r ∈ catR c, r.runs.length ≤ 1000000 := by
  intro r hr
  unfold catR at hr
  simp only [List.mem_append, List.mem_map] at hr
  rcases hr with (⟨a, ha, rfl⟩ | ⟨a, ha, rfl⟩) | ⟨a, ha, rfl⟩
  · exact h.1.2 a ha
  · exact h.2.1.2 a ha
  · exact h.2.2.2 a ha
theorem headC_len (nb nm : Nat) : (headC nb nm).length = 12 := by unfold headC; simp [numL_len]
set_option maxRecDepth 100000 in
set_option maxHeartbeats 4000000 in
theorem zput (v : Value) (c : JCat) (w : World) (h : CatIn w v c) (hc : SmallC c) (hlen : c.boxes.length + c.mans.length + c.names.length ≤ 1000) :
    Calls Tryz.prog 11 #[v] w (CPutSays c w) := by
  have HCH : Hid (∀ W, Kept [] w W → Calls Tryz.prog 13 #[v] W (ChkSays c W)) := Lib.hid (fun W q => zcheck v c W (h.kept0 q) hc)
  have HRC : Hid (∀ W, Kept [] w W → Calls Tryz.prog 37 #[v] W (RecsSays c W)) := Lib.hid (fun W q => zrecords v c W (h.kept0 q) (by omega))
  have HTX : Hid (∀ W u lo hi, RecsIn W u (catR c) lo hi → Calls Tryz.prog 38 #[u] W (TxSays (catR c) W)) := Lib.hid (fun W u lo hi hu => jtx u (catR c) lo hi W hu (by rw [catR_len]; omega) (catR_small hc))
  obtain ⟨vb, vm, vn, rfl, hb, hm, hn, hwb, hwm⟩ := h
  obtain ⟨p1, c1, rfl⟩ := hb.shape
  obtain ⟨p2, c2, rfl⟩ := hm.shape
  obtain ⟨p3, c3, rfl⟩ := hn.shape
  obtain ⟨b1, b2⟩ := bd32 hwb
  obtain ⟨b3, b4⟩ := bd32 hwm
  obtain ⟨nb, hnb⟩ := Int.eq_ofNat_of_zero_le b1
  obtain ⟨nm, hnm⟩ := Int.eq_ofNat_of_zero_le b3
  have hU1 : ∀ W, Calls Tryz.prog 36 #[.int .u32 c.nextBox] W fun e w' => e = .returned (.string (bs (numL nb 4))) ∧ Kept [] W w' := fun W => by rw [hnb]; exact packU32 nb W (by omega)
  have hU2 : ∀ W, Calls Tryz.prog 36 #[.int .u32 c.nextMan] W fun e w' => e = .returned (.string (bs (numL nm 4))) ∧ Kept [] W w' := fun W => by rw [hnm]; exact packU32 nm W (by omega)
  have HU1 := Lib.hid hU1
  have HU2 := Lib.hid hU2
  unfold ChkSays at HCH
  unfold RecsSays at HRC
  unfold TxSays at HTX
  have oA := Own.new w #[.int .u32 c.nextBox, .int .u32 c.nextMan, .slice p1 c.boxes.length c1, .slice p2 c.mans.length c2, .slice p3 c.names.length c3] 25
  have k0 : Kept [] w (w.alloc (.cells #[.int .u32 c.nextBox, .int .u32 c.nextMan, .slice p1 c.boxes.length c1, .slice p2 c.mans.length c2, .slice p3 c.names.length c3] 25)) := (Kept.refl _ _).alloc _
  obtain ⟨x0, x1, x2, x3, x4⟩ := oA.k5
  have OA := Lib.hid oA
  have K0 := Lib.hid k0
  have HLN := Lib.hid hlen
  clear oA k0 hb hm hn hwb hwm hc hU1 hU2 b1 b2 b3 b4 hlen
  have HTX4 : numL nb 4 = numL c.nextBox.toNat 4 ∧ numL nm 4 = numL c.nextMan.toNat 4 := by rw [hnb, hnm]; exact ⟨rfl, rfl⟩
  have HNU := Lib.hid HTX4
  clear hnb hnm HTX4
  by_cases hmc : mayC c
  · have hck : chkX c = 0 := by unfold chkX; rw [if_pos hmc]
    have hpo : putOut c = (putC c, 0) := by unfold putOut; rw [if_pos hmc]
    obtain ⟨PRE, hP⟩ : ∃ P, P = headC c.nextBox.toNat c.nextMan.toNat := ⟨_, rfl⟩
    have hbody : bodyC c = PRE ++ (if catR c = [] then [] else txL (catR c)) := by unfold bodyC; rw [hP]
    have HPL : Hid (PRE.length = 12) := Lib.hid (by rw [hP]; exact headC_len _ _)
    have HP : Hid (bs (67 :: 65 :: 84 :: 76 :: numL nb 4) ++ bs (numL nm 4) = bs PRE) := Lib.hid (by rw [hP, bs_append]; unfold headC; rw [HNU.out.1, HNU.out.2]; rfl)
    clear hP
    have htx : catR c ≠ [] → txCode (catR c) = 0 ∧ txOut (catR c) = txL (catR c) := fun hne => by
      have hall := catR_may hmc
      exact tx_yes (l := catR c) (List.length_pos_iff.2 hne) (fun j hj => hall _ (List.getElem_mem hj))
    have hlen2 : (∀ r ∈ catR c, r.fits) → (txL (catR c)).length ≤ 300000 := fun hf => by
      have h1 := recs_len (l := catR c) (fun r hr => rec_ok (catR_may hmc r hr) (hf r hr))
      have h2 : (catR c).length ≤ 1000 := by rw [catR_len]; exact HLN.out
      unfold txL bodyL
      simp only [List.length_append, numL_len]
      omega
    rw [hck] at HCH
    have HPO := Lib.hid hpo
    have HBODY := Lib.hid hbody
    have HTXX := Lib.hid htx
    have HL2 := Lib.hid hlen2
    have HCL : Hid ((catR c).length ≤ 1000) := Lib.hid (by rw [catR_len]; exact HLN.out)
    clear hck hpo hmc hbody htx hlen2
    go_enter Tryz.func11, Tryz.ntmps11
    go_wp2_with fail
    refine (HCH.out _ K0.out).mono ?_; rintro e w2 ⟨rfl, k2⟩
    have K2 := Lib.hid (K0.out.trans k2)
    have OA2 := Lib.hid (k2.own OA.out (by simp))
    go_wp2_with fail
    refine wp_region_held_drew (S := (fun W => (W.cell? ⟨w.heap.size, 0, none⟩ = some (.int .u32 c.nextBox) ∧ W.cell? ⟨w.heap.size, 1, none⟩ = some (.int .u32 c.nextMan)))) (by kernel_rfl) (by exact ⟨OA2.out.drew.k5.1, OA2.out.drew.k5.2.1⟩) (fun hHeld => ?_)
    refine take_at (i := 0) (d := some 11) (v := ?_) rfl rfl (by kernel_rfl) (by kernel_rfl) (by kernel_rfl) (fun _ _ _ h => h) (Or.inl ⟨by rfl, ?_⟩) (by assumption) ?_
    rotate_left
    · (intro w hSw; (try dsimp only at hSw); go_simp; try with_reducible rfl)
    try simp only [Act.put, List.setIfInBounds_toArray, List.set_cons_zero, List.set_cons_succ]
    refine take_at (i := 1) (d := some 12) (v := ?_) rfl rfl (by kernel_rfl) (by kernel_rfl) (by kernel_rfl) (fun _ _ _ h => h) (Or.inl ⟨by rfl, ?_⟩) (by assumption) ?_
    rotate_left
    · (intro w hSw; (try dsimp only at hSw); go_simp; try with_reducible rfl)
    try simp only [Act.put, List.setIfInBounds_toArray, List.set_cons_zero, List.set_cons_succ]
    refine take_at (i := 4) (d := some 15) (v := ?_) rfl rfl (by kernel_rfl) (by kernel_rfl) (by kernel_rfl) (fun _ _ _ h => h) (Or.inl ⟨by rfl, ?_⟩) (by assumption) ?_
    rotate_left
    · (intro w hSw; (try dsimp only at hSw); go_simp; try with_reducible rfl)
    try simp only [Act.put, List.setIfInBounds_toArray, List.set_cons_zero, List.set_cons_succ]
    refine take_at (i := 5) (d := some 16) (v := ?_) rfl rfl (by kernel_rfl) (by kernel_rfl) (by kernel_rfl) (fun _ _ _ h => h) (Or.inl ⟨by rfl, ?_⟩) (by assumption) ?_
    rotate_left
    · (intro w hSw; (try dsimp only at hSw); go_simp; try with_reducible rfl)
    try simp only [Act.put, List.setIfInBounds_toArray, List.set_cons_zero, List.set_cons_succ]
    refine wpAnyH_ready (rs := [2]) (by kernel_rfl) (by simp) ?_
    refine (AllReadyH.cons rfl (fun K hK => ?_) AllReadyH.nil)
    go_simp
    ((with_reducible refine (HU1.out _).mono ?_)); rintro e w3 ⟨rfl, k3⟩
    have OA3 := Lib.hid (k3.own OA2.out.drew (by simp))
    have K3 := Lib.hid (K2.out.drew.trans k3)
    go_wp2_with fail
    refine hK.out _ _ ?_ (fun hHeld => ?_)
    · exact ⟨OA3.out.k5.1, OA3.out.k5.2.1⟩
    clear hK K
    try simp only [Act.put, List.setIfInBounds_toArray, List.set_cons_zero, List.set_cons_succ]
    refine take_at (i := 3) (d := some 14) (v := .string (bs ([67, 65, 84, 76] ++ numL nb 4))) rfl rfl (by kernel_rfl) (by kernel_rfl) (by kernel_rfl) (fun _ _ _ h => h) (Or.inl ⟨by rfl, ?_⟩) (by assumption) ?_
    · (intro w hSw; go_simp; rw [if_neg (by rw [bs_size, numL_len]; omega)]; exact congrArg (fun x => Result.ok (Next.value (Value.string x)) w) (bs_append [67, 65, 84, 76] (numL nb 4)))
    try simp only [Act.put, List.setIfInBounds_toArray, List.set_cons_zero, List.set_cons_succ]
    refine wpAnyH_ready (rs := [6]) (by kernel_rfl) (by simp) ?_
    refine (AllReadyH.cons rfl (fun K hK => ?_) AllReadyH.nil)
    go_simp
    ((with_reducible refine (HU2.out _).mono ?_)); rintro e w4 ⟨rfl, k4⟩
    have OA4 := Lib.hid (k4.own OA3.out (by simp))
    have K4 := Lib.hid (K3.out.trans k4)
    go_wp2_with fail
    refine hK.out _ _ ?_ (fun hHeld => ?_)
    · exact ⟨OA4.out.k5.1, OA4.out.k5.2.1⟩
    clear hK K
    try simp only [Act.put, List.setIfInBounds_toArray, List.set_cons_zero, List.set_cons_succ]
    refine take_at (i := 7) (d := some 18) (v := .string (bs PRE)) rfl rfl (by kernel_rfl) (by kernel_rfl) (by kernel_rfl) (fun _ _ _ h => h) (Or.inl ⟨by rfl, ?_⟩) (by assumption) ?_
    · (intro w hSw; go_simp; rw [if_neg (by rw [bs_size, bs_size, numL_len]; simp only [List.length_cons, numL_len]; omega)]; exact congrArg (fun x => Result.ok (Next.value (Value.string x)) w) HP.out)
    try simp only [Act.put, List.setIfInBounds_toArray, List.set_cons_zero, List.set_cons_succ]
    refine take_at (i := 8) (d := some 4) (v := ?_) rfl rfl (by kernel_rfl) (by kernel_rfl) (by kernel_rfl) (fun _ _ _ h => h) (Or.inl ⟨by rfl, ?_⟩) (by assumption) ?_
    rotate_left
    · (intro w hSw; (try dsimp only at hSw); go_simp; try with_reducible rfl)
    try simp only [Act.put, List.setIfInBounds_toArray, List.set_cons_zero, List.set_cons_succ]
    refine wpAnyH_done (by kernel_rfl) ?_ _
    have hx := OA4.out.k5
    obtain ⟨x0, x1, x2, x3, x4⟩ := hx
    go_wp2_with fail
    refine (HRC.out _ K4.out).mono ?_; rintro e w5 ⟨u, rfl, hu, k5⟩
    have K5 := Lib.hid (K4.out.trans k5)
    obtain ⟨pu, cu, rfl⟩ := RowsOf.shape hu
    have hfit : ∀ r ∈ catR c, r.fits := fun r hr => by
      obtain ⟨i, hi, rfl⟩ := List.getElem_of_mem hr
      obtain ⟨_, _, _, _, _, _, _, _, _, _, hf, _⟩ := RecsIn.at_ hu i hi
      exact hf
    have HTL := Lib.hid (HL2.out hfit)
    have HU := Lib.hid hu
    by_cases h0 : catR c = []
    · have hlen0 : (catR c).length = 0 := by rw [h0]; rfl
      have hb := HBODY.out
      rw [if_pos h0, List.append_nil] at hb
      have HB := Lib.hid hb
      have HSL : Hid (∀ W, Calls Tryz.prog 39 #[.string (bs PRE)] W fun e w' => e = .returned (.string (bs (sealL PRE))) ∧ Kept [] W w') := Lib.hid (fun W => cseal PRE W (by have := HPL.out; omega))
      clear hu hfit hb h0
      rw [hlen0]
      clear hlen0
      go_wp2_with fail
      refine (HSL.out _).mono ?_; rintro e w6 ⟨rfl, k6⟩
      go_wp2_with fail
      go_ret2
      exact cputSays_of (by rw [HPO.out]; unfold putC; rw [HB.out]) (K5.out.trans k6)
    · have hp : 0 < (catR c).length := List.length_pos_iff.2 h0
      have hp1 : (0 : Int) < (catR c).length := by omega
      have hp2 : ((catR c).length : Int) ≤ 1000 := by have := HCL.out; omega
      obtain ⟨t1, t2⟩ := HTXX.out h0
      have hb := HBODY.out
      rw [if_neg h0] at hb
      have hT := HTX.out w5 (.slice pu (catR c).length cu) _ _ hu
      rw [t1, t2] at hT
      obtain ⟨TX, hTX⟩ : ∃ T, T = txL (catR c) := ⟨_, rfl⟩
      rw [← hTX] at hT hb
      have htl := HTL.out
      rw [← hTX] at htl
      have HT := Lib.hid hT
      have HB := Lib.hid hb
      have hz1 : (bs PRE).size = 12 := by rw [bs_size]; exact HPL.out
      have hz2 : (bs TX).size ≤ 300000 := by rw [bs_size]; exact htl
      have HBA : Hid (bs PRE ++ bs TX = bs (PRE ++ TX)) := Lib.hid (bs_append _ _)
      have HSL : Hid (∀ W, Calls Tryz.prog 39 #[.string (bs (PRE ++ TX))] W fun e w' => e = .returned (.string (bs (sealL (PRE ++ TX)))) ∧ Kept [] W w') := Lib.hid (fun W => cseal (PRE ++ TX) W (by have := HPL.out; rw [List.length_append]; omega))
      clear hu hfit hb h0 hp hT hTX htl t1 t2
      generalize (catR c).length = n at *
      go_wp2_with fail
      refine (HT.out).mono ?_; rintro e w6 ⟨rfl, k6⟩
      go_wp2_with fail
      rw [HBA.out]
      refine (HSL.out _).mono ?_; rintro e w7 ⟨rfl, k7⟩
      go_wp2_with fail
      go_ret2
      exact cputSays_of (by rw [HPO.out]; unfold putC; rw [HB.out]) ((K5.out.trans k6).trans k7)
  · have hck : chkX c = 110 := by unfold chkX; rw [if_neg hmc]
    have hpo : putOut c = ([], 110) := by unfold putOut; rw [if_neg hmc]
    rw [hck] at HCH
    have HPO := Lib.hid hpo
    clear hck hpo hmc
    go_enter Tryz.func11, Tryz.ntmps11
    go_wp2_with fail
    refine (HCH.out _ K0.out).mono ?_; rintro e w2 ⟨rfl, k2⟩
    go_wp2_with fail
    go_ret2
    exact cputSays_of HPO.out (K0.out.trans k2)
set_option maxRecDepth 100000 in
set_option maxHeartbeats 4000000 in
theorem zruns (v : Value) (c : JCat) (w : World) (h : CatIn w v c) (hlen : c.boxes.length + c.mans.length + c.names.length ≤ 1000) (htot : (runsC c).length ≤ 1000000) :
    Calls Tryz.prog 33 #[v] w (GivesR (runsC c) w) := by
  have HRC : Hid (∀ W, Kept [] w W → Calls Tryz.prog 37 #[v] W (RecsSays c W)) := Lib.hid (fun W q => zrecords v c W (h.kept0 q) (by omega))
  unfold RecsSays at HRC
  obtain ⟨vb, vm, vn, rfl, hb, hm, hn, _⟩ := h
  obtain ⟨p1, c1, rfl⟩ := hb.shape
  obtain ⟨p2, c2, rfl⟩ := hm.shape
  obtain ⟨p3, c3, rfl⟩ := hn.shape
  have oA := Own.new w #[.int .u32 c.nextBox, .int .u32 c.nextMan, .slice p1 c.boxes.length c1, .slice p2 c.mans.length c2, .slice p3 c.names.length c3] 25
  have k0 : Kept [] w (w.alloc (.cells #[.int .u32 c.nextBox, .int .u32 c.nextMan, .slice p1 c.boxes.length c1, .slice p2 c.mans.length c2, .slice p3 c.names.length c3] 25)) := (Kept.refl _ _).alloc _
  obtain ⟨x0, x1, x2, x3, x4⟩ := oA.k5
  have K0 := Lib.hid k0
  have HLN : Hid ((catR c).length ≤ 1000) := Lib.hid (by rw [catR_len]; exact hlen)
  have HTOT : Hid (∀ k, (((catR c).take k).map (·.runs)).flatten.length ≤ 1000000) := Lib.hid (fun k => by
    refine Nat.le_trans ?_ htot
    unfold runsC
    conv => rhs; rw [← List.take_append_drop k (catR c), List.map_append, List.flatten_append, List.length_append]
    omega)
  have HEQ : Hid (runsC c = ((catR c).map (·.runs)).flatten) := Lib.hid rfl
  clear oA k0 hb hm hn hlen htot
  generalize catR c = L at *
  unfold GivesR
  generalize runsC c = RC at *
  go_enter Tryz.func33, Tryz.ntmps33
  go_wp2_with fail
  refine (HRC.out _ K0.out).mono ?_; rintro e w2 ⟨u, rfl, hu, k2⟩
  have K2 := Lib.hid (K0.out.trans k2)
  obtain ⟨pu, cu, rfl⟩ := RowsOf.shape hu
  have HU := Lib.hid hu
  have hL1 : (L.length : Int) ≤ 1000 := by have := HLN.out; omega
  clear hu
  go_wp2_with fail
  go_loopw [3, 9] (fun o i wr => ∃ k : Nat, k ≤ L.length ∧ i = .int .i64 k ∧ wr.ownsRow w2.heap.size 48 2 o ((L.take k).map (·.runs)).flatten.length (rcells ((L.take k).map (·.runs)).flatten) ∧ Kept [] w2 wr) (fun _ i _ => L.length - (intOf i).toNat)
  case atStart => exact ⟨0, Nat.zero_le _, rfl, World.ownsRow_nil _ _ _ _, Kept.refl _ _⟩
  case round =>
    obtain ⟨k, hk, rfl, hrow, hK⟩ := hrel
    by_cases hlt : k < L.length
    · have i1 : (k : Int) < L.length := by omega
      obtain ⟨b, off, kv, rfl, r0, r1, r2, r3, r4, hrun, hfit, hlb, hbh, hih⟩ := RecsIn.at_ (HU.out.kept0 hK) k hlt
      have htk : ((L.take (k + 1)).map (·.runs)).flatten = ((L.take k).map (·.runs)).flatten ++ (L[k]'hlt).runs := by
        rw [List.take_succ_eq_append_getElem hlt, List.map_append, List.flatten_append]; simp
      have ht1 := HTOT.out (k + 1)
      rw [htk, List.length_append] at ht1
      obtain ⟨pr, cr, rfl⟩ := hrun.shape
      obtain ⟨po, co, rfl⟩ := own_shape hrow
      have HLT := Lib.hid hlt
      have HTK := Lib.hid htk
      have HT1 := Lib.hid ht1
      have HRUN := Lib.hid (hrun.kept0 ((Kept.refl [] wr).alloc (.cells #[.int .i64 (L[k]'hlt).kind, .int .u32 (L[k]'hlt).id, .string (bs (L[k]'hlt).name), .int .i64 (L[k]'hlt).size, .slice pr (L[k]'hlt).runs.length cr] 55)))
      have HROW := Lib.hid (World.ownsRow.alloc hrow (.cells #[.int .i64 (L[k]'hlt).kind, .int .u32 (L[k]'hlt).id, .string (bs (L[k]'hlt).name), .int .i64 (L[k]'hlt).size, .slice pr (L[k]'hlt).runs.length cr] 55))
      have HKA := Lib.hid (hK.alloc (.cells #[.int .i64 (L[k]'hlt).kind, .int .u32 (L[k]'hlt).id, .string (bs (L[k]'hlt).name), .int .i64 (L[k]'hlt).size, .slice pr (L[k]'hlt).runs.length cr] 55))
      have oR := Own.new wr #[.int .i64 (L[k]'hlt).kind, .int .u32 (L[k]'hlt).id, .string (bs (L[k]'hlt).name), .int .i64 (L[k]'hlt).size, .slice pr (L[k]'hlt).runs.length cr] 55
      obtain ⟨y0, y1, y2, y3, y4⟩ := oR.k5
      clear hrun hfit hlb hbh hih htk ht1 hrow oR
      generalize hLR : (L[k]'hlt) = R at *
      clear hLR hlt
      generalize ((L.take k).map (·.runs)).flatten = F at *
      go_wp2_with (at_builtin; go_must (refine wpList_append_runs rfl (.tmp 13) (.tmp 15) rfl w2.heap.size _ _ _ rfl HROW.out _ R.runs _ _ rfl HRUN.out (by have := HT1.out; unfold maxLen; omega) (by have := HT1.out; omega) (by have := HKA.out.size; omega) ?_))
      intro v' w5 hown hgrow
      have HOW := Lib.hid hown
      have HK5 := Lib.hid (HKA.out.grown hgrow (fun q hq => Or.inr (World.ownsRow.lt HROW.out q hq).1))
      obtain ⟨p5, c5, rfl⟩ := own_shape hown
      clear hown hgrow
      go_wp2_with fail
      go_roundw
      case rel => exact ⟨k + 1, HLT.out, by go_num, by rw [HTK.out, List.length_append, show rcells (F ++ R.runs) = rcells F ++ rcells R.runs from by simp [rcells]]; exact HOW.out, HK5.out⟩
      case measure => (have h := HLT.out; simp [intOf]; omega)
    · obtain rfl : k = L.length := by omega
      rw [List.take_length, ← HEQ.out] at hrow
      obtain ⟨po, co, rfl⟩ := own_shape hrow
      have i1 : ¬ (L.length : Int) < L.length := by omega
      have hfin := ownsRow_base hrow K2.out.size
      have HF := Lib.hid hfin
      have HKF := Lib.hid (K2.out.trans hK)
      clear hrow hfin hK
      go_wp2_with fail
      go_ret
      exact ⟨_, rfl, HF.out, HKF.out⟩
set_option maxRecDepth 100000 in
set_option maxHeartbeats 4000000 in
theorem qtx (v : Value) (l : List JRec) (lo hi : Nat) (w : World) (h : RecsIn w v l lo hi) (hl : l.length ≤ 1000) (hok : ∀ r ∈ l, RecOk r) :
    Calls Tryz.prog 56 #[v] w fun e w' => e = .returned (.string (bs (txL l))) ∧ Kept [] w w' := by
  obtain ⟨p, c, rfl⟩ := RowsOf.shape h
  have hl' : (l.length : Int) ≤ 1000 := by omega
  have e0 := ju64_nat l.length (by omega)
  have hu := fun W => jNum2 l.length W (by omega)
  have HU := Lib.hid hu
  have H := Lib.hid h
  have HOK := Lib.hid hok
  clear hu h hok
  go_enter Tryz.func56, Tryz.ntmps56
  go_wp2_with fail
  refine (HU.out _).mono ?_; rintro e w1 ⟨rfl, hk1⟩
  clear e0
  go_wp2_with fail
  go_loopw [3, 4] (fun t i wr => ∃ k : Nat, k ≤ l.length ∧ i = .int .i64 k ∧ t = .string (bs (numL l.length 2 ++ ((l.take k).map recL).flatten)) ∧ Kept [] w wr) (fun _ i _ => l.length - (intOf i).toNat)
  case atStart => exact ⟨0, by omega, rfl, by simp, hk1⟩
  case round =>
    obtain ⟨k, hk, rfl, rfl, hK⟩ := hrel
    have hlen := bodyTo_len hl hk (fun j hj _ => HOK.out _ (List.getElem_mem hj))
    by_cases hlt : k < l.length
    · obtain ⟨b', off, kv, rfl, c0, c1, c2, c3, c4, hr, hfit, _, hbh, hhw⟩ := (H.out.kept0 hK).at_ k hlt
      obtain ⟨pk, ck, rfl⟩ := hr.shape
      have ho := HOK.out _ (List.getElem_mem hlt)
      have htk := recs_take l k hlt
      have hby := fun W (kk : Kept [] wr W) => qrec l[k] _ lo hi W (hr.kept0 kk) ho
      have hrl3 := recL_len ho
      have HTK := Lib.hid htk
      have HBY := Lib.hid hby
      have HLT := Lib.hid hlt
      have HLEN := Lib.hid hlen
      have i1 : (k : Int) < l.length := by omega
      have y1 : (bs (recL l[k])).size ≤ 200 := by rw [bs_size]; exact hrl3
      have y0 : (bs (numL l.length 2 ++ ((l.take k).map recL).flatten)).size ≤ 200100 := by rw [bs_size]; exact hlen
      have hstr : Hid (bs (numL l.length 2 ++ ((l.take k).map recL).flatten) ++ bs (recL l[k]) = bs (numL l.length 2 ++ ((l.take (k + 1)).map recL).flatten)) := by
        show _ = _; rw [bs_append, HTK.out]; simp only [List.append_assoc]; rfl
      clear htk hby hlen hr hfit ho hrl3
      unfold JRec.cells at HBY
      generalize bs (recL l[k]) = RB at *
      generalize bs (numL l.length 2 ++ ((l.take k).map recL).flatten) = S0 at *
      generalize l[k].kind = rk at *
      generalize l[k].id = ri at *
      generalize l[k].name = rn at *
      generalize l[k].size = rs at *
      generalize l[k].runs.length = rr at *
      go_wp2_with fail
      refine (HBY.out _ (Kept.refl _ _)).mono ?_; rintro e w3 ⟨rfl, k3⟩
      have kk := hK.trans k3
      have yy : (S0 ++ RB).size = S0.size + RB.size := ByteArray.size_append
      go_wp2_with fail
      go_roundw
      case rel => exact ⟨k + 1, HLT.out, by go_num, by rw [← hstr.out], kk⟩
      case measure => (have hh := HLT.out; simp [intOf]; omega)
    · obtain rfl : k = l.length := by omega
      rw [List.take_length] at hlen ⊢
      have ebody : numL l.length 2 ++ (l.map recL).flatten = bodyL l := rfl
      rw [ebody] at hlen ⊢
      have e1 := ju64_nat (bodyL l).length (by omega)
      have hz : (bs (bodyL l)).size = (bodyL l).length := bs_size _
      have hcr := crc_lt (bodyL l)
      have e2 := ju64_nat (crc (bodyL l)) (by omega)
      have h1 := fun W => jNum4 (bodyL l).length W (by omega)
      have h2 := fun W => rsum (bs (bodyL l)) W (by rw [hz]; omega)
      have h3 := fun W => jNum4 (crc (bodyL l)) W (by omega)
      rw [bs_data] at h2
      have hfin : Hid (bs (numL (bodyL l).length 4) ++ bs (numL (crc (bodyL l)) 4) ++ bs (bodyL l) = bs (txL l)) := by
        show _ = _; rw [bs_append, bs_append, List.append_assoc]; rfl
      have y1 : (bs (numL (bodyL l).length 4)).size = 4 := by rw [bs_size, numL_len]
      have y2 : (bs (numL (crc (bodyL l)) 4)).size = 4 := by rw [bs_size, numL_len]
      have y3 : (bs (bodyL l)).size ≤ 200100 := by rw [hz]; omega
      have yy : (bs (numL (bodyL l).length 4) ++ bs (numL (crc (bodyL l)) 4)).size = 8 := by rw [ByteArray.size_append, y1, y2]
      have H1 := Lib.hid h1
      have H2 := Lib.hid h2
      have H3 := Lib.hid h3
      have hlb : ((bodyL l).length : Int) ≤ 200100 := by omega
      clear h1 h2 h3 ebody
      generalize bs (numL (bodyL l).length 4) = M1 at *
      generalize bs (numL (crc (bodyL l)) 4) = M2 at *
      generalize bs (bodyL l) = M3 at *
      generalize crc (bodyL l) = cr at *
      generalize (bodyL l).length = bl at *
      go_wp2_with fail
      refine (H1.out _).mono ?_; rintro e w2 ⟨rfl, k2⟩
      go_wp2_with fail
      refine (H2.out _).mono ?_; rintro e w3 ⟨rfl, k3⟩
      go_wp2_with fail
      refine (H3.out _).mono ?_; rintro e w4 ⟨rfl, k4⟩
      have kk := ((hK.trans k2).trans k3).trans k4
      go_wp2_with fail
      go_ret
      exact ⟨by rw [← hfin.out]; rfl, kk⟩
set_option maxRecDepth 100000 in
set_option maxHeartbeats 8000000 in
theorem qput (v : Value) (c : JCat) (w : World) (h : CatIn w v c) (hmc : mayC c) (hlen : c.boxes.length + c.mans.length + c.names.length ≤ 1000) :
    Calls Tryz.prog 19 #[v] w fun e w' => e = .returned (.string (bs (putC c))) ∧ Kept [] w w' := by
  have HRC : Hid (∀ W, Kept [] w W → Calls Tryz.prog 55 #[v] W (RecsSays c W)) := Lib.hid (fun W q => qcatRecs v c W (h.kept0 q) (by omega))
  have HTX : Hid (∀ W u lo hi, RecsIn W u (catR c) lo hi → (∀ r ∈ catR c, RecOk r) → Calls Tryz.prog 56 #[u] W fun e w' => e = .returned (.string (bs (txL (catR c)))) ∧ Kept [] W w') := Lib.hid (fun W u lo hi hu ho => qtx u (catR c) lo hi W hu (by rw [catR_len]; omega) ho)
  obtain ⟨vb, vm, vn, rfl, hb, hm, hn, hwb, hwm⟩ := h
  obtain ⟨p1, c1, rfl⟩ := hb.shape
  obtain ⟨p2, c2, rfl⟩ := hm.shape
  obtain ⟨p3, c3, rfl⟩ := hn.shape
  obtain ⟨b1, b2⟩ := bd32 hwb
  obtain ⟨b3, b4⟩ := bd32 hwm
  obtain ⟨nb, hnb⟩ := Int.eq_ofNat_of_zero_le b1
  obtain ⟨nm, hnm⟩ := Int.eq_ofNat_of_zero_le b3
  have EW1 : Hid (IntKind.u64.wrap c.nextBox = c.nextBox) := Lib.hid (by rw [hnb]; exact ju64_nat nb (by omega))
  have EW2 : Hid (IntKind.u64.wrap c.nextMan = c.nextMan) := Lib.hid (by rw [hnm]; exact ju64_nat nm (by omega))
  have HU1 : Hid (∀ W, Calls Tryz.prog 54 #[.int .u64 c.nextBox, .int .i64 4] W fun e w' => e = .returned (.string (bs (numL nb 4))) ∧ Kept [] W w') := Lib.hid (fun W => by rw [hnb]; exact jNum4 nb W (by omega))
  have HU2 : Hid (∀ W, Calls Tryz.prog 54 #[.int .u64 c.nextMan, .int .i64 4] W fun e w' => e = .returned (.string (bs (numL nm 4))) ∧ Kept [] W w') := Lib.hid (fun W => by rw [hnm]; exact jNum4 nm W (by omega))
  unfold RecsSays at HRC
  have oA := Own.new w #[.int .u32 c.nextBox, .int .u32 c.nextMan, .slice p1 c.boxes.length c1, .slice p2 c.mans.length c2, .slice p3 c.names.length c3] 25
  have k0 : Kept [] w (w.alloc (.cells #[.int .u32 c.nextBox, .int .u32 c.nextMan, .slice p1 c.boxes.length c1, .slice p2 c.mans.length c2, .slice p3 c.names.length c3] 25)) := (Kept.refl _ _).alloc _
  have OA := Lib.hid oA
  have K0 := Lib.hid k0
  have HNU : Hid (numL nb 4 = numL c.nextBox.toNat 4 ∧ numL nm 4 = numL c.nextMan.toNat 4) := Lib.hid (by rw [hnb, hnm]; exact ⟨rfl, rfl⟩)
  obtain ⟨PRE, hP⟩ : ∃ P, P = headC c.nextBox.toNat c.nextMan.toNat := ⟨_, rfl⟩
  have HBODY : Hid (bodyC c = PRE ++ (if catR c = [] then [] else txL (catR c))) := Lib.hid (by unfold bodyC; rw [hP])
  have HPL : Hid (PRE.length = 12) := Lib.hid (by rw [hP]; exact headC_len _ _)
  have HP : Hid (bs (67 :: 65 :: 84 :: 76 :: numL nb 4) ++ bs (numL nm 4) = bs PRE) := Lib.hid (by rw [hP, bs_append]; unfold headC; rw [HNU.out.1, HNU.out.2]; rfl)
  have HALL := Lib.hid (catR_may hmc)
  have HCL : Hid ((catR c).length ≤ 1000) := Lib.hid (by rw [catR_len]; exact hlen)
  have HEND : Hid (∀ (l : List UInt8), l.length ≤ 400000 → ∀ W, Calls Tryz.prog 57 #[.string (bs l)] W fun e w' => e = .returned (.int .u32 (crc l)) ∧ Kept [] W w') := Lib.hid (fun l hl W => by
    have := rsum (bs l) W (by rw [bs_size]; omega)
    rwa [bs_data] at this)
  clear oA k0 hb hm hn hwb hwm b1 b2 b3 b4 hlen hmc hnb hnm hP
  go_enter Tryz.func19, Tryz.ntmps19
  go_wp2_with fail
  refine wp_region_held_drew (S := (fun W => (W.cell? ⟨w.heap.size, 0, none⟩ = some (.int .u32 c.nextBox) ∧ W.cell? ⟨w.heap.size, 1, none⟩ = some (.int .u32 c.nextMan)))) (by kernel_rfl) (by exact ⟨OA.out.drew.k5.1, OA.out.drew.k5.2.1⟩) (fun hHeld => ?_)
  refine take_at (i := 0) (d := some 5) (v := ?_) rfl rfl (by kernel_rfl) (by kernel_rfl) (by kernel_rfl) (fun _ _ _ h => h) (Or.inl ⟨by rfl, ?_⟩) (by assumption) ?_
  rotate_left
  · (intro w hSw; (try dsimp only at hSw); go_simp; try with_reducible rfl)
  try simp only [Act.put, List.setIfInBounds_toArray, List.set_cons_zero, List.set_cons_succ]
  refine take_at (i := 1) (d := some 6) (v := ?_) rfl rfl (by kernel_rfl) (by kernel_rfl) (by kernel_rfl) (fun _ _ _ h => h) (Or.inl ⟨by rfl, ?_⟩) (by assumption) ?_
  rotate_left
  · (intro w hSw; (try dsimp only at hSw); go_simp; try with_reducible rfl)
  try simp only [Act.put, List.setIfInBounds_toArray, List.set_cons_zero, List.set_cons_succ]
  refine take_at (i := 2) (d := some 7) (v := .int .u64 c.nextBox) rfl rfl (by kernel_rfl) (by kernel_rfl) (by kernel_rfl) (fun _ _ _ h => h) (Or.inl ⟨by rfl, ?_⟩) (by assumption) ?_
  · (intro w hSw; (try dsimp only at hSw); go_simp; (try rw [EW1.out]))
  try simp only [Act.put, List.setIfInBounds_toArray, List.set_cons_zero, List.set_cons_succ]
  refine take_at (i := 5) (d := some 10) (v := ?_) rfl rfl (by kernel_rfl) (by kernel_rfl) (by kernel_rfl) (fun _ _ _ h => h) (Or.inl ⟨by rfl, ?_⟩) (by assumption) ?_
  rotate_left
  · (intro w hSw; (try dsimp only at hSw); go_simp; try with_reducible rfl)
  try simp only [Act.put, List.setIfInBounds_toArray, List.set_cons_zero, List.set_cons_succ]
  refine take_at (i := 6) (d := some 11) (v := ?_) rfl rfl (by kernel_rfl) (by kernel_rfl) (by kernel_rfl) (fun _ _ _ h => h) (Or.inl ⟨by rfl, ?_⟩) (by assumption) ?_
  rotate_left
  · (intro w hSw; (try dsimp only at hSw); go_simp; try with_reducible rfl)
  try simp only [Act.put, List.setIfInBounds_toArray, List.set_cons_zero, List.set_cons_succ]
  refine take_at (i := 7) (d := some 12) (v := .int .u64 c.nextMan) rfl rfl (by kernel_rfl) (by kernel_rfl) (by kernel_rfl) (fun _ _ _ h => h) (Or.inl ⟨by rfl, ?_⟩) (by assumption) ?_
  · (intro w hSw; (try dsimp only at hSw); go_simp; (try rw [EW2.out]))
  try simp only [Act.put, List.setIfInBounds_toArray, List.set_cons_zero, List.set_cons_succ]
  refine wpAnyH_ready (rs := [3]) (by kernel_rfl) (by simp) ?_
  refine (AllReadyH.cons rfl (fun K hK => ?_) AllReadyH.nil)
  go_simp
  ((with_reducible refine (HU1.out _).mono ?_)); rintro e w3 ⟨rfl, k3⟩
  have OA3 := Lib.hid (k3.own OA.out.drew (by simp))
  have K3 := Lib.hid (K0.out.drew.trans k3)
  go_wp2_with fail
  refine hK.out _ _ ?_ (fun hHeld => ?_)
  · exact ⟨OA3.out.k5.1, OA3.out.k5.2.1⟩
  clear hK K
  try simp only [Act.put, List.setIfInBounds_toArray, List.set_cons_zero, List.set_cons_succ]
  refine take_at (i := 4) (d := some 9) (v := .string (bs ([67, 65, 84, 76] ++ numL nb 4))) rfl rfl (by kernel_rfl) (by kernel_rfl) (by kernel_rfl) (fun _ _ _ h => h) (Or.inl ⟨by rfl, ?_⟩) (by assumption) ?_
  · (intro w hSw; go_simp; rw [if_neg (by rw [bs_size, numL_len]; omega)]; exact congrArg (fun x => Result.ok (Next.value (Value.string x)) w) (bs_append [67, 65, 84, 76] (numL nb 4)))
  try simp only [Act.put, List.setIfInBounds_toArray, List.set_cons_zero, List.set_cons_succ]
  refine wpAnyH_ready (rs := [8]) (by kernel_rfl) (by simp) ?_
  refine (AllReadyH.cons rfl (fun K hK => ?_) AllReadyH.nil)
  go_simp
  ((with_reducible refine (HU2.out _).mono ?_)); rintro e w4 ⟨rfl, k4⟩
  have OA4 := Lib.hid (k4.own OA3.out (by simp))
  have K4 := Lib.hid (K3.out.trans k4)
  go_wp2_with fail
  refine hK.out _ _ ?_ (fun hHeld => ?_)
  · exact ⟨OA4.out.k5.1, OA4.out.k5.2.1⟩
  clear hK K
  try simp only [Act.put, List.setIfInBounds_toArray, List.set_cons_zero, List.set_cons_succ]
  refine take_at (i := 9) (d := some 14) (v := .string (bs PRE)) rfl rfl (by kernel_rfl) (by kernel_rfl) (by kernel_rfl) (fun _ _ _ h => h) (Or.inl ⟨by rfl, ?_⟩) (by assumption) ?_
  · (intro w hSw; go_simp; rw [if_neg (by rw [bs_size, bs_size, numL_len]; simp only [List.length_cons, numL_len]; omega)]; exact congrArg (fun x => Result.ok (Next.value (Value.string x)) w) HP.out)
  try simp only [Act.put, List.setIfInBounds_toArray, List.set_cons_zero, List.set_cons_succ]
  refine take_at (i := 10) (d := some 3) (v := ?_) rfl rfl (by kernel_rfl) (by kernel_rfl) (by kernel_rfl) (fun _ _ _ h => h) (Or.inl ⟨by rfl, ?_⟩) (by assumption) ?_
  rotate_left
  · (intro w hSw; (try dsimp only at hSw); go_simp; try with_reducible rfl)
  try simp only [Act.put, List.setIfInBounds_toArray, List.set_cons_zero, List.set_cons_succ]
  refine wpAnyH_done (by kernel_rfl) ?_ _
  obtain ⟨x0, x1, x2, x3, x4⟩ := OA4.out.k5
  go_wp2_with fail
  refine (HRC.out _ K4.out).mono ?_; rintro e w5 ⟨u, rfl, hu, k5⟩
  have K5 := Lib.hid (K4.out.trans k5)
  obtain ⟨pu, cu, rfl⟩ := RowsOf.shape hu
  have hok : ∀ r ∈ catR c, RecOk r := fun r hr => by
    obtain ⟨i, hi, rfl⟩ := List.getElem_of_mem hr
    obtain ⟨_, _, _, _, _, _, _, _, _, _, hf, _⟩ := RecsIn.at_ hu i hi
    exact rec_ok (HALL.out _ hr) hf
  by_cases h0 : catR c = []
  · have hlen0 : (catR c).length = 0 := by rw [h0]; rfl
    have HB : Hid (bodyC c = PRE) := Lib.hid (by rw [HBODY.out, if_pos h0, List.append_nil])
    have hz1 : (bs PRE).size = 12 := by rw [bs_size]; exact HPL.out
    obtain ⟨C, hC⟩ : ∃ C : Nat, crc PRE = C := ⟨_, rfl⟩
    have hcl : C < 4294967296 := by rw [← hC]; exact crc_lt _
    have HSU := Lib.hid (HEND.out PRE (by have := HPL.out; omega))
    have HNM := Lib.hid (fun W => jNum4 C W (by omega))
    have ew3 : IntKind.u64.wrap (C : Int) = C := ju64_nat C (by omega)
    have hz3 : (bs (numL C 4)).size ≤ 4 := by rw [bs_size, numL_len]; omega
    have HFIN : Hid (bs PRE ++ bs (numL C 4) = bs (putC c)) := Lib.hid (by rw [bs_append]; unfold putC sealL; rw [HB.out, hC])
    rw [hC] at HSU
    clear hC hcl
    clear hu hok h0
    rw [hlen0]
    clear hlen0
    go_wp2_with fail
    refine (HSU.out _).mono ?_; rintro e w6 ⟨rfl, k6⟩
    go_wp2_with fail
    refine (HNM.out _).mono ?_; rintro e w7 ⟨rfl, k7⟩
    go_wp2_with fail
    go_ret
    exact ⟨by rw [← HFIN.out]; rfl, (K5.out.trans k6).trans k7⟩
  · have hp1 : (0 : Int) < (catR c).length := by have := List.length_pos_iff.2 h0; omega
    have hp2 : ((catR c).length : Int) ≤ 1000 := by have := HCL.out; omega
    have HT := Lib.hid (HTX.out w5 (.slice pu (catR c).length cu) _ _ hu hok)
    have htl : (txL (catR c)).length ≤ 300000 := by
      have h1 := recs_len hok
      have h2 := HCL.out
      unfold txL bodyL
      simp only [List.length_append, numL_len]
      omega
    obtain ⟨TX, hTX⟩ : ∃ T, T = txL (catR c) := ⟨_, rfl⟩
    rw [← hTX] at htl HT
    have HB : Hid (bodyC c = PRE ++ TX) := Lib.hid (by rw [HBODY.out, if_neg h0, hTX])
    have hz1 : (bs PRE).size = 12 := by rw [bs_size]; exact HPL.out
    have hz2 : (bs TX).size ≤ 300000 := by rw [bs_size]; exact htl
    have hz4 : (bs (PRE ++ TX)).size ≤ 300012 := by rw [bs_size, List.length_append, HPL.out]; omega
    have HBA : Hid (bs PRE ++ bs TX = bs (PRE ++ TX)) := Lib.hid (bs_append _ _)
    obtain ⟨C, hC⟩ : ∃ C : Nat, crc (PRE ++ TX) = C := ⟨_, rfl⟩
    have hcl : C < 4294967296 := by rw [← hC]; exact crc_lt _
    have HSU := Lib.hid (HEND.out (PRE ++ TX) (by have := HPL.out; rw [List.length_append]; omega))
    have HNM := Lib.hid (fun W => jNum4 C W (by omega))
    have ew3 : IntKind.u64.wrap (C : Int) = C := ju64_nat C (by omega)
    have hz3 : (bs (numL C 4)).size ≤ 4 := by rw [bs_size, numL_len]; omega
    have HFIN : Hid (bs (PRE ++ TX) ++ bs (numL C 4) = bs (putC c)) := Lib.hid (by rw [bs_append]; unfold putC sealL; rw [HB.out, hC])
    rw [hC] at HSU
    clear hC hcl
    clear hu hok h0 hTX htl
    generalize (catR c).length = n at *
    go_wp2_with fail
    refine (HT.out).mono ?_; rintro e w6 ⟨rfl, k6⟩
    go_wp2_with fail
    rw [HBA.out]
    refine (HSU.out _).mono ?_; rintro e w7 ⟨rfl, k7⟩
    go_wp2_with fail
    refine (HNM.out _).mono ?_; rintro e w8 ⟨rfl, k8⟩
    go_wp2_with fail
    go_ret
    exact ⟨by rw [← HFIN.out]; rfl, ((K5.out.trans k6).trans k7).trans k8⟩
end Go.Proofs.YtakdnchmehmdhaaGreat
