/- Layer 29 (catalog): the document's Runs and Empty. -/
import Derived.Test.YtakdnchmehmdhaaGreatG24
import Derived.Test.YtakdnchmehmdhaaGreatG25
namespace Go.Proofs.YtakdnchmehmdhaaGreat
open Go.RowKit
set_option linter.unusedVariables false
set_option linter.unusedSimpArgs false

theorem qempty (w : World) : Calls Tryz.prog 17 #[] w fun e w' => e = .returned (.agg #[.int .u32 1, .int .u32 1, .slice none 0 0, .slice none 0 0, .slice none 0 0]) ∧ Kept [] w w' := by
  go_enter Tryz.func17, Tryz.ntmps17
  go_wp2_with fail
  have o := Own.new w #[.int .u32 1, .int .u32 1, .slice none 0 0, .slice none 0 0, .slice none 0 0] 25
  refine bodyPost_ret (v := .agg #[.int .u32 1, .int .u32 1, .slice none 0 0, .slice none 0 0, .slice none 0 0]) (ret_row Tryz.results17 rfl (t := 25) ?_ Tryz.underlying25 rfl (by kernel_rfl)) rfl ⟨rfl, (Kept.refl _ _).alloc _⟩
  exact o
set_option maxRecDepth 100000 in
set_option maxHeartbeats 4000000 in
theorem qcatRuns (v : Value) (c : JCat) (w : World) (h : CatIn w v c) (hlen : c.boxes.length + c.mans.length + c.names.length ≤ 1000) (htot : (runsC c).length ≤ 1000000) :
    Calls Tryz.prog 24 #[v] w (GivesR (runsC c) w) := by
  have HRC : Hid (∀ W, Kept [] w W → Calls Tryz.prog 55 #[v] W (RecsSays c W)) := Lib.hid (fun W q => qcatRecs v c W (h.kept0 q) (by omega))
  unfold RecsSays at HRC
  obtain ⟨vb, vm, vn, rfl, hb, hm, hn, _⟩ := h
  obtain ⟨p1, c1, rfl⟩ := hb.shape
  obtain ⟨p2, c2, rfl⟩ := hm.shape
  obtain ⟨p3, c3, rfl⟩ := hn.shape
  have oA := Own.new w #[.int .u32 c.nextBox, .int .u32 c.nextMan, .slice p1 c.boxes.length c1, .slice p2 c.mans.length c2, .slice p3 c.names.length c3] 25
  have k0 : Kept [] w (w.alloc (.cells #[.int .u32 c.nextBox, .int .u32 c.nextMan, .slice p1 c.boxes.length c1, .slice p2 c.mans.length c2, .slice p3 c.names.length c3] 25)) := (Kept.refl _ _).alloc _
  obtain ⟨x0, x1, x2, x3, x4⟩ := oA.k5
  have K0 := Lib.hid k0
  have HLN : Hid ((catR c).length ≤ 1000) := Lib.hid (by rw [catR_len]; exact hlen)
  have HTOT : Hid (∀ k, (((catR c).take k).map (·.runs)).flatten.length ≤ 1000000) := Lib.hid (fun k => by
    refine Nat.le_trans ?_ htot
    unfold runsC
    conv => rhs; rw [← List.take_append_drop k (catR c), List.map_append, List.flatten_append, List.length_append]
    omega)
  have HEQ : Hid (runsC c = ((catR c).map (·.runs)).flatten) := Lib.hid rfl
  clear oA k0 hb hm hn hlen htot
  generalize catR c = L at *
  unfold GivesR
  generalize runsC c = RC at *
  go_enter Tryz.func24, Tryz.ntmps24
  go_wp2_with fail
  refine (HRC.out _ K0.out).mono ?_; rintro e w2 ⟨u, rfl, hu, k2⟩
  have K2 := Lib.hid (K0.out.trans k2)
  obtain ⟨pu, cu, rfl⟩ := RowsOf.shape hu
  have HU := Lib.hid hu
  have hL1 : (L.length : Int) ≤ 1000 := by have := HLN.out; omega
  clear hu
  go_wp2_with fail
  go_loopw [3, 5] (fun o i wr => ∃ k : Nat, k ≤ L.length ∧ i = .int .i64 k ∧ wr.ownsRow w2.heap.size 48 2 o ((L.take k).map (·.runs)).flatten.length (rcells ((L.take k).map (·.runs)).flatten) ∧ Kept [] w2 wr) (fun _ i _ => L.length - (intOf i).toNat)
  case atStart => exact ⟨0, Nat.zero_le _, rfl, World.ownsRow_nil _ _ _ _, Kept.refl _ _⟩
  case round =>
    obtain ⟨k, hk, rfl, hrow, hK⟩ := hrel
    by_cases hlt : k < L.length
    · have i1 : (k : Int) < L.length := by omega
      obtain ⟨b, off, kv, rfl, r0, r1, r2, r3, r4, hrun, hfit, hlb, hbh, hih⟩ := RecsIn.at_ (HU.out.kept0 hK) k hlt
      have htk : ((L.take (k + 1)).map (·.runs)).flatten = ((L.take k).map (·.runs)).flatten ++ (L[k]'hlt).runs := by
        rw [List.take_succ_eq_append_getElem hlt, List.map_append, List.flatten_append]; simp
      have ht1 := HTOT.out (k + 1)
      rw [htk, List.length_append] at ht1
      obtain ⟨pr, cr, rfl⟩ := hrun.shape
      obtain ⟨po, co, rfl⟩ := own_shape hrow
      have HLT := Lib.hid hlt
      have HTK := Lib.hid htk
      have HT1 := Lib.hid ht1
      have HRUN := Lib.hid hrun
      have HROW := Lib.hid hrow
      have HKA := Lib.hid hK
      clear hrun hfit hih htk ht1 hrow hK
      generalize hLR : (L[k]'hlt) = R at *
      clear hLR hlt
      generalize ((L.take k).map (·.runs)).flatten = F at *
      go_wp2_with (at_builtin; go_must (refine wpList_append_runs rfl (.tmp 14) (.tmp 19) rfl w2.heap.size _ _ _ rfl HROW.out _ R.runs _ _ rfl HRUN.out (by have := HT1.out; unfold maxLen; omega) (by have := HT1.out; omega) (by have := HKA.out.size; omega) ?_))
      intro v' w5 hown hgrow
      have HOW := Lib.hid hown
      have HK5 := Lib.hid (HKA.out.grown hgrow (fun q hq => Or.inr (World.ownsRow.lt HROW.out q hq).1))
      obtain ⟨p5, c5, rfl⟩ := own_shape hown
      clear hown hgrow
      go_wp2_with fail
      go_roundw
      case rel => exact ⟨k + 1, HLT.out, by go_num, by rw [HTK.out, List.length_append, show rcells (F ++ R.runs) = rcells F ++ rcells R.runs from by simp [rcells]]; exact HOW.out, HK5.out⟩
      case measure => (have h := HLT.out; simp [intOf]; omega)
    · obtain rfl : k = L.length := by omega
      rw [List.take_length, ← HEQ.out] at hrow
      obtain ⟨po, co, rfl⟩ := own_shape hrow
      have i1 : ¬ (L.length : Int) < L.length := by omega
      have hfin := ownsRow_base hrow K2.out.size
      have HF := Lib.hid hfin
      have HKF := Lib.hid (K2.out.trans hK)
      clear hrow hfin hK
      go_wp2_with fail
      go_ret
      exact ⟨_, rfl, HF.out, HKF.out⟩
end Go.Proofs.YtakdnchmehmdhaaGreat
