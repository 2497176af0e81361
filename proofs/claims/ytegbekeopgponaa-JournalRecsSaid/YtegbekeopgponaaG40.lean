/- Layer 13 (journal): which records may be; the bytes of any transaction, read again. -/
import Derived.Test.YtegbekeopgponaaG22
import Derived.Test.YtegbekeopgponaaG39
import Derived.Deep.CutBlock
import Derived.Deep.DeepCutAuto
namespace Go.Proofs.Ytegbekeopgponaa
open Go.RowKit
set_option linter.unusedVariables false
set_option linter.unusedSimpArgs false

theorem all_take {l : List JRec} {k : Nat} (h : k < l.length) : (l.take (k + 1)).all mayR = ((l.take k).all mayR && mayR l[k]) := by
  rw [List.take_succ_eq_append_getElem h, List.all_append]; simp
set_option maxRecDepth 100000 in
set_option maxHeartbeats 8000000 in
theorem recsLaw (va : Value) (l : List JRec) (w : World) (h : RecsIn w va l 0 w.heap.size) :
    Calls Try.prog 6 #[va] w fun e w' => e = .returned (.bool true) ∧ Below w.heap.size w w' := by
  have hsm := jsmall va l _ _ w h
  unfold SmallSays at hsm
  obtain ⟨p, c, rfl⟩ := h.shape
  have haw := fun W => jawake W
  have HAW := Lib.hid haw
  have HSM := Lib.hid hsm
  have H := Lib.hid h
  have hfits := h.fits
  have HFITS := Lib.hid hfits
  clear haw hsm h hfits
  go_enter Try.func6, Try.ntmps6
  go_wp2_with fail
  refine HSM.out.mono ?_; rintro e w' ⟨rfl, hc⟩
  rcases hc with ⟨rfl, hfew⟩ | rfl
  · have HFEW := Lib.hid hfew
    have hl30 := hfew.1
    clear hfew HSM
    go_wp2_with fail
    go_loopw [3, 4, 5] (fun v3 i v5 wr => ∃ k : Nat, k ≤ l.length ∧ i = .int .i64 k ∧ v3 = .bool ((l.take k).all mayR) ∧ Kept [] w wr) (fun _ i _ _ => l.length - (intOf i).toNat)
    case atStart => exact ⟨0, by omega, rfl, rfl, Kept.refl _ _⟩
    case round =>
      obtain ⟨k, hk, rfl, rfl, hK⟩ := hrel
      by_cases hlt : k < l.length
      · obtain ⟨b, off, kv, rfl, c0, c1, c2, c3, c4, hr, hfit, _, hbh, hhw⟩ := (H.out.kept0 hK).at_ k hlt
        obtain ⟨b', off', kv', he, d0, d1, d2, d3, d4, hr', hfit', _, _, _⟩ := (H.out.kept0 hK).at_ 0 (by omega)
        injection he with he
        injection he with eb eo _
        subst eb eo
        have hat := all_take hlt
        have hrk := (HFEW.out.2 _ (List.getElem_mem hlt)).1
        have hr0 := (HFEW.out.2 _ (List.getElem_mem (show 0 < l.length by omega))).1
        have hmay := fun W (kk : Kept [] wr W) => qmay l[k] kv _ _ W (hr.kept0 kk) (by omega) hfit
        have hchk := fun W (kk : Kept [] wr W) => jcheck l[k] kv _ _ W (hr.kept0 kk) (by omega) hfit
        have hsp := fun W (kk : Kept [] wr W) => jsame l[k] l[0] kv kv' _ _ _ _ W (hr.kept0 kk) (hr'.kept0 kk) (by omega) (by omega)
        have hsq := fun W (kk : Kept [] wr W) => qsame l[k] l[0] kv kv' _ _ _ _ W (hr.kept0 kk) (hr'.kept0 kk) (by omega) (by omega)
        unfold JMay at hmay
        unfold JCheck at hchk
        unfold JRec.cells at hmay hchk hsp hsq
        obtain ⟨pk, ck, rfl⟩ := hr.shape
        obtain ⟨pk', ck', rfl⟩ := hr'.shape
        have HMAY := Lib.hid hmay
        have HSP := Lib.hid hsp
        have HSQ := Lib.hid hsq
        have HAT := Lib.hid hat
        have HLT := Lib.hid hlt
        have i1 : (k : Int) < l.length := by omega
        have i2 : (l.length : Int) ≤ 30 := by omega
        have i4 : (0 : Int) < l.length := by omega
        have i5 : 0 < l.length := by omega
        have hbw : b < wr.heap.size := by omega
        clear hmay hsp hsq hat hr hr' hfit hfit' hrk hr0
        simp only [Nat.zero_mul, Nat.add_zero] at d0 d1 d2 d3 d4
        generalize mayR l[k] = M at *
        generalize l[k].same l[0] = SM at *
        generalize l[k].kind = rk at *
        generalize l[k].id = ri at *
        generalize l[k].name = rn at *
        generalize l[k].size = rs at *
        generalize l[k].runs.length = rr at *
        generalize l[0].kind = qk at *
        generalize l[0].id = qi at *
        generalize l[0].name = qn at *
        generalize l[0].size = qs at *
        generalize l[0].runs.length = qr at *
        generalize (l.take k).all mayR = AK at *
        clear hlt
        have hS : ∀ W, Kept [] wr W → (W.cell? ⟨b, off + k * 5, none⟩ = some (.int .i64 rk) ∧ W.cell? ⟨b, off + k * 5 + 1, none⟩ = some (.int .u32 ri) ∧ W.cell? ⟨b, off + k * 5 + 2, none⟩ = some (.string (bs rn)) ∧ W.cell? ⟨b, off + k * 5 + 3, none⟩ = some (.int .i64 rs) ∧ W.cell? ⟨b, off + k * 5 + 4, none⟩ = some (.slice pk rr ck) ∧ W.cell? ⟨b, off, none⟩ = some (.int .i64 qk) ∧ W.cell? ⟨b, off + 1, none⟩ = some (.int .u32 qi) ∧ W.cell? ⟨b, off + 2, none⟩ = some (.string (bs qn)) ∧ W.cell? ⟨b, off + 3, none⟩ = some (.int .i64 qs) ∧ W.cell? ⟨b, off + 4, none⟩ = some (.slice pk' qr ck')) := fun W kk => ⟨(kk.cell (by exact hbw) (by simp)).trans c0, (kk.cell (by exact hbw) (by simp)).trans c1, (kk.cell (by exact hbw) (by simp)).trans c2, (kk.cell (by exact hbw) (by simp)).trans c3, (kk.cell (by exact hbw) (by simp)).trans c4, (kk.cell (by exact hbw) (by simp)).trans d0, (kk.cell (by exact hbw) (by simp)).trans d1, (kk.cell (by exact hbw) (by simp)).trans d2, (kk.cell (by exact hbw) (by simp)).trans d3, (kk.cell (by exact hbw) (by simp)).trans d4⟩
        have HS := Lib.hid hS
        clear hS
        go_wp2_with fail
        refine (HMAY.out _ (Kept.refl _ _)).mono ?_; rintro e w1 ⟨rfl, k1⟩
        obtain ⟨c0, c1, c2, c3, c4, d0, d1, d2, d3, d4⟩ := HS.out _ k1
        have K1 := Lib.hid k1
        go_upto_region 8 with fail
        go_cut [3] from 14 to 67 (fun v3 wx => v3 = .bool (AK && M) ∧ wx = w1)
        case first =>
          cases AK
          · go_wp2_with fail
            go_meet
            exact ⟨rfl, rfl⟩
          · go_wp2_with fail
            go_meet
            exact ⟨rfl, rfl⟩
        case rest =>
          obtain ⟨rfl, rfl⟩ := hcut
          generalize hAM : (AK && M) = AM at *
          have HAM := Lib.hid hAM
          clear hAM
          go_upto_region 9 with fail
          go_cut [67] from 14 to 67 (fun v67 wx => v67 = .bool false ∧ Kept [] wr wx)
          case first =>
            cases M
            · simp only [Bool.false_eq_true, if_false] at hchk
              have HCHK := Lib.hid hchk
              clear hchk HMAY
              refine wp_region_held_drew (S := (fun W => W.cell? ⟨b, off + k * 5, none⟩ = some (.int .i64 rk) ∧ W.cell? ⟨b, off + k * 5 + 1, none⟩ = some (.int .u32 ri) ∧ W.cell? ⟨b, off + k * 5 + 2, none⟩ = some (.string (bs rn)) ∧ W.cell? ⟨b, off + k * 5 + 3, none⟩ = some (.int .i64 rs) ∧ W.cell? ⟨b, off + k * 5 + 4, none⟩ = some (.slice pk rr ck) ∧ W.cell? ⟨b, off, none⟩ = some (.int .i64 qk) ∧ W.cell? ⟨b, off + 1, none⟩ = some (.int .u32 qi) ∧ W.cell? ⟨b, off + 2, none⟩ = some (.string (bs qn)) ∧ W.cell? ⟨b, off + 3, none⟩ = some (.int .i64 qs) ∧ W.cell? ⟨b, off + 4, none⟩ = some (.slice pk' qr ck'))) (by kernel_rfl) (by exact HS.out _ (by repeat' first | exact K1.out | refine Kept.drew ?_)) (fun hHeld => ?_)
              refine take_at (i := 0) (d := some 29) (v := ?_) rfl rfl (by kernel_rfl) (by kernel_rfl) (by kernel_rfl) (fun _ _ _ h => h) (Or.inl ⟨by rfl, ?_⟩) (by assumption) ?_
              rotate_left
              · (intro w hSw; (try dsimp only at hSw); go_simp; try with_reducible rfl)
              try simp only [Act.put, List.setIfInBounds_toArray, List.set_cons_zero, List.set_cons_succ]
              refine take_at (i := 1) (d := some 30) (v := ?_) rfl rfl (by kernel_rfl) (by kernel_rfl) (by kernel_rfl) (fun _ _ _ h => h) (Or.inl ⟨by rfl, ?_⟩) (by assumption) ?_
              rotate_left
              · (intro w hSw; (try dsimp only at hSw); go_simp; try with_reducible rfl)
              try simp only [Act.put, List.setIfInBounds_toArray, List.set_cons_zero, List.set_cons_succ]
              refine take_at (i := 2) (d := some 31) (v := ?_) rfl rfl (by kernel_rfl) (by kernel_rfl) (by kernel_rfl) (fun _ _ _ h => h) (Or.inl ⟨by rfl, ?_⟩) (by assumption) ?_
              rotate_left
              · (intro w hSw; (try dsimp only at hSw); go_simp; try with_reducible rfl)
              try simp only [Act.put, List.setIfInBounds_toArray, List.set_cons_zero, List.set_cons_succ]
              refine take_at (i := 3) (d := some 32) (v := ?_) rfl rfl (by kernel_rfl) (by kernel_rfl) (by kernel_rfl) (fun _ _ _ h => h) (Or.inl ⟨by rfl, ?_⟩) (by assumption) ?_
              rotate_left
              · (intro w hSw; (try dsimp only at hSw); go_simp; try with_reducible rfl)
              try simp only [Act.put, List.setIfInBounds_toArray, List.set_cons_zero, List.set_cons_succ]
              refine take_at (i := 6) (d := some 35) (v := ?_) rfl rfl (by kernel_rfl) (by kernel_rfl) (by kernel_rfl) (fun _ _ _ h => h) (Or.inl ⟨by rfl, ?_⟩) (by assumption) ?_
              rotate_left
              · (intro w hSw; (try dsimp only at hSw); go_simp; try with_reducible rfl)
              try simp only [Act.put, List.setIfInBounds_toArray, List.set_cons_zero, List.set_cons_succ]
              refine wpAnyH_ready (rs := [4]) (by kernel_rfl) (by simp) ?_
              refine (AllReadyH.cons rfl (fun K hK => ?_) AllReadyH.nil)
              go_simp
              ((with_reducible refine (HCHK.out _ (by repeat' first | exact K1.out | refine Kept.drew ?_)).mono ?_)); rintro e w2 ⟨rfl, kw2⟩
              have Kw2 : Hid (Kept [] wr w2) := Kept.trans (by repeat' first | exact K1.out | refine Kept.drew ?_) kw2
              clear kw2
              go_wp2_with fail
              refine hK.out _ _ ?_ (fun hHeld => ?_)
              · exact HS.out _ Kw2.out
              clear hK K
              try simp only [Act.put, List.setIfInBounds_toArray, List.set_cons_zero, List.set_cons_succ]
              refine take_at (i := 5) (d := some 34) (v := ?_) rfl rfl (by kernel_rfl) (by kernel_rfl) (by kernel_rfl) (fun _ _ _ h => h) (Or.inl ⟨by rfl, ?_⟩) (by assumption) ?_
              rotate_left
              · (intro w hSw; (try dsimp only at hSw); go_simp; try with_reducible rfl)
              try simp only [Act.put, List.setIfInBounds_toArray, List.set_cons_zero, List.set_cons_succ]
              refine take_at (i := 7) (d := some 36) (v := ?_) rfl rfl (by kernel_rfl) (by kernel_rfl) (by kernel_rfl) (fun _ _ _ h => h) (Or.inl ⟨by rfl, ?_⟩) (by assumption) ?_
              rotate_left
              · (intro w hSw; (try dsimp only at hSw); go_simp; try with_reducible rfl)
              try simp only [Act.put, List.setIfInBounds_toArray, List.set_cons_zero, List.set_cons_succ]
              refine take_at (i := 8) (d := some 37) (v := ?_) rfl rfl (by kernel_rfl) (by kernel_rfl) (by kernel_rfl) (fun _ _ _ h => h) (Or.inl ⟨by rfl, ?_⟩) (by assumption) ?_
              rotate_left
              · (intro w hSw; (try dsimp only at hSw); go_simp; try with_reducible rfl)
              try simp only [Act.put, List.setIfInBounds_toArray, List.set_cons_zero, List.set_cons_succ]
              refine take_at (i := 9) (d := some 38) (v := ?_) rfl rfl (by kernel_rfl) (by kernel_rfl) (by kernel_rfl) (fun _ _ _ h => h) (Or.inl ⟨by rfl, ?_⟩) (by assumption) ?_
              rotate_left
              · (intro w hSw; (try dsimp only at hSw); go_simp; try with_reducible rfl)
              try simp only [Act.put, List.setIfInBounds_toArray, List.set_cons_zero, List.set_cons_succ]
              refine take_at (i := 10) (d := some 39) (v := ?_) rfl rfl (by kernel_rfl) (by kernel_rfl) (by kernel_rfl) (fun _ _ _ h => h) (Or.inl ⟨by rfl, ?_⟩) (by assumption) ?_
              rotate_left
              · (intro w hSw; (try dsimp only at hSw); go_simp; try with_reducible rfl)
              try simp only [Act.put, List.setIfInBounds_toArray, List.set_cons_zero, List.set_cons_succ]
              refine take_at (i := 11) (d := some 40) (v := ?_) rfl rfl (by kernel_rfl) (by kernel_rfl) (by kernel_rfl) (fun _ _ _ h => h) (Or.inl ⟨by rfl, ?_⟩) (by assumption) ?_
              rotate_left
              · (intro w hSw; (try dsimp only at hSw); go_simp; try with_reducible rfl)
              try simp only [Act.put, List.setIfInBounds_toArray, List.set_cons_zero, List.set_cons_succ]
              refine take_at (i := 12) (d := some 41) (v := ?_) rfl rfl (by kernel_rfl) (by kernel_rfl) (by kernel_rfl) (fun _ _ _ h => h) (Or.inl ⟨by rfl, ?_⟩) (by assumption) ?_
              rotate_left
              · (intro w hSw; (try dsimp only at hSw); go_simp; try with_reducible rfl)
              try simp only [Act.put, List.setIfInBounds_toArray, List.set_cons_zero, List.set_cons_succ]
              refine take_at (i := 13) (d := some 42) (v := ?_) rfl rfl (by kernel_rfl) (by kernel_rfl) (by kernel_rfl) (fun _ _ _ h => h) (Or.inl ⟨by rfl, ?_⟩) (by assumption) ?_
              rotate_left
              · (intro w hSw; (try dsimp only at hSw); go_simp; try with_reducible rfl)
              try simp only [Act.put, List.setIfInBounds_toArray, List.set_cons_zero, List.set_cons_succ]
              refine take_at (i := 14) (d := some 43) (v := ?_) rfl rfl (by kernel_rfl) (by kernel_rfl) (by kernel_rfl) (fun _ _ _ h => h) (Or.inl ⟨by rfl, ?_⟩) (by assumption) ?_
              rotate_left
              · (intro w hSw; (try dsimp only at hSw); go_simp; try with_reducible rfl)
              try simp only [Act.put, List.setIfInBounds_toArray, List.set_cons_zero, List.set_cons_succ]
              refine take_at (i := 15) (d := some 44) (v := ?_) rfl rfl (by kernel_rfl) (by kernel_rfl) (by kernel_rfl) (fun _ _ _ h => h) (Or.inl ⟨by rfl, ?_⟩) (by assumption) ?_
              rotate_left
              · (intro w hSw; (try dsimp only at hSw); go_simp; try with_reducible rfl)
              try simp only [Act.put, List.setIfInBounds_toArray, List.set_cons_zero, List.set_cons_succ]
              refine wpAnyH_ready (rs := [16]) (by kernel_rfl) (by simp) ?_
              refine (AllReadyH.cons rfl (fun K hK => ?_) AllReadyH.nil)
              go_simp
              ((with_reducible refine (HCHK.out _ (by repeat' first | exact Kw2.out | refine Kept.drew ?_)).mono ?_)); rintro e w3 ⟨rfl, kw3⟩
              have Kw3 : Hid (Kept [] wr w3) := Kept.trans (by repeat' first | exact Kw2.out | refine Kept.drew ?_) kw3
              clear kw3
              go_wp2_with fail
              refine hK.out _ _ ?_ (fun hHeld => ?_)
              · exact HS.out _ Kw3.out
              clear hK K
              try simp only [Act.put, List.setIfInBounds_toArray, List.set_cons_zero, List.set_cons_succ]
              refine take_at (i := 17) (d := some 46) (v := ?_) rfl rfl (by kernel_rfl) (by kernel_rfl) (by kernel_rfl) (fun _ _ _ h => h) (Or.inl ⟨by rfl, ?_⟩) (by assumption) ?_
              rotate_left
              · (intro w hSw; (try dsimp only at hSw); go_simp; try with_reducible rfl)
              try simp only [Act.put, List.setIfInBounds_toArray, List.set_cons_zero, List.set_cons_succ]
              refine take_at (i := 18) (d := some 47) (v := ?_) rfl rfl (by kernel_rfl) (by kernel_rfl) (by kernel_rfl) (fun _ _ _ h => h) (Or.inl ⟨by rfl, ?_⟩) (by assumption) ?_
              rotate_left
              · (intro w hSw; (try dsimp only at hSw); go_simp; try with_reducible rfl)
              try simp only [Act.put, List.setIfInBounds_toArray, List.set_cons_zero, List.set_cons_succ]
              refine take_at (i := 19) (d := some 48) (v := ?_) rfl rfl (by kernel_rfl) (by kernel_rfl) (by kernel_rfl) (fun _ _ _ h => h) (Or.inl ⟨by rfl, ?_⟩) (by assumption) ?_
              rotate_left
              · (intro w hSw; (try dsimp only at hSw); go_simp; try with_reducible rfl)
              try simp only [Act.put, List.setIfInBounds_toArray, List.set_cons_zero, List.set_cons_succ]
              refine take_at (i := 20) (d := some 49) (v := ?_) rfl rfl (by kernel_rfl) (by kernel_rfl) (by kernel_rfl) (fun _ _ _ h => h) (Or.inl ⟨by rfl, ?_⟩) (by assumption) ?_
              rotate_left
              · (intro w hSw; (try dsimp only at hSw); go_simp; try with_reducible rfl)
              try simp only [Act.put, List.setIfInBounds_toArray, List.set_cons_zero, List.set_cons_succ]
              refine take_at (i := 21) (d := some 50) (v := ?_) rfl rfl (by kernel_rfl) (by kernel_rfl) (by kernel_rfl) (fun _ _ _ h => h) (Or.inl ⟨by rfl, ?_⟩) (by assumption) ?_
              rotate_left
              · (intro w hSw; (try dsimp only at hSw); go_simp; try with_reducible rfl)
              try simp only [Act.put, List.setIfInBounds_toArray, List.set_cons_zero, List.set_cons_succ]
              refine take_at (i := 22) (d := some 51) (v := ?_) rfl rfl (by kernel_rfl) (by kernel_rfl) (by kernel_rfl) (fun _ _ _ h => h) (Or.inl ⟨by rfl, ?_⟩) (by assumption) ?_
              rotate_left
              · (intro w hSw; (try dsimp only at hSw); go_simp; try with_reducible rfl)
              try simp only [Act.put, List.setIfInBounds_toArray, List.set_cons_zero, List.set_cons_succ]
              refine take_at (i := 23) (d := some 52) (v := ?_) rfl rfl (by kernel_rfl) (by kernel_rfl) (by kernel_rfl) (fun _ _ _ h => h) (Or.inl ⟨by rfl, ?_⟩) (by assumption) ?_
              rotate_left
              · (intro w hSw; (try dsimp only at hSw); go_simp; try with_reducible rfl)
              try simp only [Act.put, List.setIfInBounds_toArray, List.set_cons_zero, List.set_cons_succ]
              refine take_at (i := 24) (d := some 53) (v := ?_) rfl rfl (by kernel_rfl) (by kernel_rfl) (by kernel_rfl) (fun _ _ _ h => h) (Or.inl ⟨by rfl, ?_⟩) (by assumption) ?_
              rotate_left
              · (intro w hSw; (try dsimp only at hSw); go_simp; try with_reducible rfl)
              try simp only [Act.put, List.setIfInBounds_toArray, List.set_cons_zero, List.set_cons_succ]
              refine take_at (i := 25) (d := some 54) (v := ?_) rfl rfl (by kernel_rfl) (by kernel_rfl) (by kernel_rfl) (fun _ _ _ h => h) (Or.inl ⟨by rfl, ?_⟩) (by assumption) ?_
              rotate_left
              · (intro w hSw; (try dsimp only at hSw); go_simp; try with_reducible rfl)
              try simp only [Act.put, List.setIfInBounds_toArray, List.set_cons_zero, List.set_cons_succ]
              refine take_at (i := 26) (d := some 55) (v := ?_) rfl rfl (by kernel_rfl) (by kernel_rfl) (by kernel_rfl) (fun _ _ _ h => h) (Or.inl ⟨by rfl, ?_⟩) (by assumption) ?_
              rotate_left
              · (intro w hSw; (try dsimp only at hSw); go_simp; try with_reducible rfl)
              try simp only [Act.put, List.setIfInBounds_toArray, List.set_cons_zero, List.set_cons_succ]
              refine take_at (i := 27) (d := some 56) (v := ?_) rfl rfl (by kernel_rfl) (by kernel_rfl) (by kernel_rfl) (fun _ _ _ h => h) (Or.inl ⟨by rfl, ?_⟩) (by assumption) ?_
              rotate_left
              · (intro w hSw; (try dsimp only at hSw); go_simp; try with_reducible rfl)
              try simp only [Act.put, List.setIfInBounds_toArray, List.set_cons_zero, List.set_cons_succ]
              refine take_at (i := 29) (d := some 58) (v := ?_) rfl rfl (by kernel_rfl) (by kernel_rfl) (by kernel_rfl) (fun _ _ _ h => h) (Or.inl ⟨by rfl, ?_⟩) (by assumption) ?_
              rotate_left
              · (intro w hSw; (try dsimp only at hSw); go_simp; try with_reducible rfl)
              try simp only [Act.put, List.setIfInBounds_toArray, List.set_cons_zero, List.set_cons_succ]
              refine take_at (i := 30) (d := some 59) (v := ?_) rfl rfl (by kernel_rfl) (by kernel_rfl) (by kernel_rfl) (fun _ _ _ h => h) (Or.inl ⟨by rfl, ?_⟩) (by assumption) ?_
              rotate_left
              · (intro w hSw; (try dsimp only at hSw); go_simp; try with_reducible rfl)
              try simp only [Act.put, List.setIfInBounds_toArray, List.set_cons_zero, List.set_cons_succ]
              refine take_at (i := 31) (d := some 60) (v := ?_) rfl rfl (by kernel_rfl) (by kernel_rfl) (by kernel_rfl) (fun _ _ _ h => h) (Or.inl ⟨by rfl, ?_⟩) (by assumption) ?_
              rotate_left
              · (intro w hSw; (try dsimp only at hSw); go_simp; try with_reducible rfl)
              try simp only [Act.put, List.setIfInBounds_toArray, List.set_cons_zero, List.set_cons_succ]
              refine take_at (i := 32) (d := some 61) (v := ?_) rfl rfl (by kernel_rfl) (by kernel_rfl) (by kernel_rfl) (fun _ _ _ h => h) (Or.inl ⟨by rfl, ?_⟩) (by assumption) ?_
              rotate_left
              · (intro w hSw; (try dsimp only at hSw); go_simp; try with_reducible rfl)
              try simp only [Act.put, List.setIfInBounds_toArray, List.set_cons_zero, List.set_cons_succ]
              refine take_at (i := 33) (d := some 62) (v := ?_) rfl rfl (by kernel_rfl) (by kernel_rfl) (by kernel_rfl) (fun _ _ _ h => h) (Or.inl ⟨by rfl, ?_⟩) (by assumption) ?_
              rotate_left
              · (intro w hSw; (try dsimp only at hSw); go_simp; try with_reducible rfl)
              try simp only [Act.put, List.setIfInBounds_toArray, List.set_cons_zero, List.set_cons_succ]
              refine take_at (i := 34) (d := some 63) (v := ?_) rfl rfl (by kernel_rfl) (by kernel_rfl) (by kernel_rfl) (fun _ _ _ h => h) (Or.inl ⟨by rfl, ?_⟩) (by assumption) ?_
              rotate_left
              · (intro w hSw; (try dsimp only at hSw); go_simp; try with_reducible rfl)
              try simp only [Act.put, List.setIfInBounds_toArray, List.set_cons_zero, List.set_cons_succ]
              refine take_at (i := 35) (d := some 64) (v := ?_) rfl rfl (by kernel_rfl) (by kernel_rfl) (by kernel_rfl) (fun _ _ _ h => h) (Or.inl ⟨by rfl, ?_⟩) (by assumption) ?_
              rotate_left
              · (intro w hSw; (try dsimp only at hSw); go_simp; try with_reducible rfl)
              try simp only [Act.put, List.setIfInBounds_toArray, List.set_cons_zero, List.set_cons_succ]
              refine wpAnyH_ready (rs := [28]) (by kernel_rfl) (by simp) ?_
              refine (AllReadyH.cons rfl (fun K hK => ?_) AllReadyH.nil)
              go_simp
              ((with_reducible refine (HSP.out _ (by repeat' first | exact Kw3.out | refine Kept.drew ?_)).mono ?_)); rintro e w4 ⟨rfl, kw4⟩
              have Kw4 : Hid (Kept [] wr w4) := Kept.trans (by repeat' first | exact Kw3.out | refine Kept.drew ?_) kw4
              clear kw4
              go_wp2_with fail
              refine hK.out _ _ ?_ (fun hHeld => ?_)
              · exact HS.out _ Kw4.out
              clear hK K
              try simp only [Act.put, List.setIfInBounds_toArray, List.set_cons_zero, List.set_cons_succ]
              refine wpAnyH_ready (rs := [36]) (by kernel_rfl) (by simp) ?_
              refine (AllReadyH.cons rfl (fun K hK => ?_) AllReadyH.nil)
              go_simp
              ((with_reducible refine (HSQ.out _ (by repeat' first | exact Kw4.out | refine Kept.drew ?_)).mono ?_)); rintro e w5 ⟨rfl, kw5⟩
              have Kw5 : Hid (Kept [] wr w5) := Kept.trans (by repeat' first | exact Kw4.out | refine Kept.drew ?_) kw5
              clear kw5
              go_wp2_with fail
              refine hK.out _ _ ?_ (fun hHeld => ?_)
              · exact HS.out _ Kw5.out
              clear hK K
              try simp only [Act.put, List.setIfInBounds_toArray, List.set_cons_zero, List.set_cons_succ]
              refine take_at (i := 37) (d := some 66) (v := ?_) rfl rfl (by kernel_rfl) (by kernel_rfl) (by kernel_rfl) (fun _ _ _ h => h) (Or.inl ⟨by rfl, ?_⟩) (by assumption) ?_
              rotate_left
              · (intro w hSw; (try dsimp only at hSw); go_simp; try with_reducible rfl)
              try simp only [Act.put, List.setIfInBounds_toArray, List.set_cons_zero, List.set_cons_succ]
              refine take_at (i := 38) (d := some 67) (v := ?_) rfl rfl (by kernel_rfl) (by kernel_rfl) (by kernel_rfl) (fun _ _ _ h => h) (Or.inl ⟨by rfl, ?_⟩) (by assumption) ?_
              rotate_left
              · (intro w hSw; (try dsimp only at hSw); go_simp; try with_reducible rfl)
              try simp only [Act.put, List.setIfInBounds_toArray, List.set_cons_zero, List.set_cons_succ]
              refine wpAnyH_done (by kernel_rfl) ?_ _
              go_wp2_with fail
              go_meet
              exact ⟨by first | rfl | (cases SM <;> rfl), Kw5.out⟩
            · simp only [if_true] at hchk
              have HCHK := Lib.hid hchk
              clear hchk HMAY
              refine wp_region_held_drew (S := (fun W => W.cell? ⟨b, off + k * 5, none⟩ = some (.int .i64 rk) ∧ W.cell? ⟨b, off + k * 5 + 1, none⟩ = some (.int .u32 ri) ∧ W.cell? ⟨b, off + k * 5 + 2, none⟩ = some (.string (bs rn)) ∧ W.cell? ⟨b, off + k * 5 + 3, none⟩ = some (.int .i64 rs) ∧ W.cell? ⟨b, off + k * 5 + 4, none⟩ = some (.slice pk rr ck) ∧ W.cell? ⟨b, off, none⟩ = some (.int .i64 qk) ∧ W.cell? ⟨b, off + 1, none⟩ = some (.int .u32 qi) ∧ W.cell? ⟨b, off + 2, none⟩ = some (.string (bs qn)) ∧ W.cell? ⟨b, off + 3, none⟩ = some (.int .i64 qs) ∧ W.cell? ⟨b, off + 4, none⟩ = some (.slice pk' qr ck'))) (by kernel_rfl) (by exact HS.out _ (by repeat' first | exact K1.out | refine Kept.drew ?_)) (fun hHeld => ?_)
              refine take_at (i := 0) (d := some 29) (v := ?_) rfl rfl (by kernel_rfl) (by kernel_rfl) (by kernel_rfl) (fun _ _ _ h => h) (Or.inl ⟨by rfl, ?_⟩) (by assumption) ?_
              rotate_left
              · (intro w hSw; (try dsimp only at hSw); go_simp; try with_reducible rfl)
              try simp only [Act.put, List.setIfInBounds_toArray, List.set_cons_zero, List.set_cons_succ]
              refine take_at (i := 1) (d := some 30) (v := ?_) rfl rfl (by kernel_rfl) (by kernel_rfl) (by kernel_rfl) (fun _ _ _ h => h) (Or.inl ⟨by rfl, ?_⟩) (by assumption) ?_
              rotate_left
              · (intro w hSw; (try dsimp only at hSw); go_simp; try with_reducible rfl)
              try simp only [Act.put, List.setIfInBounds_toArray, List.set_cons_zero, List.set_cons_succ]
              refine take_at (i := 2) (d := some 31) (v := ?_) rfl rfl (by kernel_rfl) (by kernel_rfl) (by kernel_rfl) (fun _ _ _ h => h) (Or.inl ⟨by rfl, ?_⟩) (by assumption) ?_
              rotate_left
              · (intro w hSw; (try dsimp only at hSw); go_simp; try with_reducible rfl)
              try simp only [Act.put, List.setIfInBounds_toArray, List.set_cons_zero, List.set_cons_succ]
              refine take_at (i := 3) (d := some 32) (v := ?_) rfl rfl (by kernel_rfl) (by kernel_rfl) (by kernel_rfl) (fun _ _ _ h => h) (Or.inl ⟨by rfl, ?_⟩) (by assumption) ?_
              rotate_left
              · (intro w hSw; (try dsimp only at hSw); go_simp; try with_reducible rfl)
              try simp only [Act.put, List.setIfInBounds_toArray, List.set_cons_zero, List.set_cons_succ]
              refine take_at (i := 6) (d := some 35) (v := ?_) rfl rfl (by kernel_rfl) (by kernel_rfl) (by kernel_rfl) (fun _ _ _ h => h) (Or.inl ⟨by rfl, ?_⟩) (by assumption) ?_
              rotate_left
              · (intro w hSw; (try dsimp only at hSw); go_simp; try with_reducible rfl)
              try simp only [Act.put, List.setIfInBounds_toArray, List.set_cons_zero, List.set_cons_succ]
              refine wpAnyH_ready (rs := [4]) (by kernel_rfl) (by simp) ?_
              refine (AllReadyH.cons rfl (fun K hK => ?_) AllReadyH.nil)
              go_simp
              ((with_reducible refine (HCHK.out _ (by repeat' first | exact K1.out | refine Kept.drew ?_)).mono ?_)); rintro e w2 ⟨rfl, kw2⟩
              have Kw2 : Hid (Kept [] wr w2) := Kept.trans (by repeat' first | exact K1.out | refine Kept.drew ?_) kw2
              clear kw2
              go_wp2_with fail
              refine hK.out _ _ ?_ (fun hHeld => ?_)
              · exact HS.out _ Kw2.out
              clear hK K
              try simp only [Act.put, List.setIfInBounds_toArray, List.set_cons_zero, List.set_cons_succ]
              refine take_at (i := 5) (d := some 34) (v := ?_) rfl rfl (by kernel_rfl) (by kernel_rfl) (by kernel_rfl) (fun _ _ _ h => h) (Or.inl ⟨by rfl, ?_⟩) (by assumption) ?_
              rotate_left
              · (intro w hSw; (try dsimp only at hSw); go_simp; try with_reducible rfl)
              try simp only [Act.put, List.setIfInBounds_toArray, List.set_cons_zero, List.set_cons_succ]
              refine take_at (i := 7) (d := some 36) (v := ?_) rfl rfl (by kernel_rfl) (by kernel_rfl) (by kernel_rfl) (fun _ _ _ h => h) (Or.inl ⟨by rfl, ?_⟩) (by assumption) ?_
              rotate_left
              · (intro w hSw; (try dsimp only at hSw); go_simp; try with_reducible rfl)
              try simp only [Act.put, List.setIfInBounds_toArray, List.set_cons_zero, List.set_cons_succ]
              refine take_at (i := 8) (d := some 37) (v := ?_) rfl rfl (by kernel_rfl) (by kernel_rfl) (by kernel_rfl) (fun _ _ _ h => h) (Or.inl ⟨by rfl, ?_⟩) (by assumption) ?_
              rotate_left
              · (intro w hSw; (try dsimp only at hSw); go_simp; try with_reducible rfl)
              try simp only [Act.put, List.setIfInBounds_toArray, List.set_cons_zero, List.set_cons_succ]
              refine take_at (i := 9) (d := some 38) (v := ?_) rfl rfl (by kernel_rfl) (by kernel_rfl) (by kernel_rfl) (fun _ _ _ h => h) (Or.inl ⟨by rfl, ?_⟩) (by assumption) ?_
              rotate_left
              · (intro w hSw; (try dsimp only at hSw); go_simp; try with_reducible rfl)
              try simp only [Act.put, List.setIfInBounds_toArray, List.set_cons_zero, List.set_cons_succ]
              refine take_at (i := 10) (d := some 39) (v := ?_) rfl rfl (by kernel_rfl) (by kernel_rfl) (by kernel_rfl) (fun _ _ _ h => h) (Or.inl ⟨by rfl, ?_⟩) (by assumption) ?_
              rotate_left
              · (intro w hSw; (try dsimp only at hSw); go_simp; try with_reducible rfl)
              try simp only [Act.put, List.setIfInBounds_toArray, List.set_cons_zero, List.set_cons_succ]
              refine take_at (i := 11) (d := some 40) (v := ?_) rfl rfl (by kernel_rfl) (by kernel_rfl) (by kernel_rfl) (fun _ _ _ h => h) (Or.inl ⟨by rfl, ?_⟩) (by assumption) ?_
              rotate_left
              · (intro w hSw; (try dsimp only at hSw); go_simp; try with_reducible rfl)
              try simp only [Act.put, List.setIfInBounds_toArray, List.set_cons_zero, List.set_cons_succ]
              refine take_at (i := 12) (d := some 41) (v := undef) rfl rfl (by kernel_rfl) (by kernel_rfl) (by kernel_rfl) (fun _ _ _ h => h) (Or.inr ⟨by rfl, rfl⟩) (by assumption) ?_
              try simp only [Act.put, List.setIfInBounds_toArray, List.set_cons_zero, List.set_cons_succ]
              refine take_at (i := 13) (d := some 42) (v := undef) rfl rfl (by kernel_rfl) (by kernel_rfl) (by kernel_rfl) (fun _ _ _ h => h) (Or.inr ⟨by rfl, rfl⟩) (by assumption) ?_
              try simp only [Act.put, List.setIfInBounds_toArray, List.set_cons_zero, List.set_cons_succ]
              refine take_at (i := 14) (d := some 43) (v := undef) rfl rfl (by kernel_rfl) (by kernel_rfl) (by kernel_rfl) (fun _ _ _ h => h) (Or.inr ⟨by rfl, rfl⟩) (by assumption) ?_
              try simp only [Act.put, List.setIfInBounds_toArray, List.set_cons_zero, List.set_cons_succ]
              refine take_at (i := 15) (d := some 44) (v := undef) rfl rfl (by kernel_rfl) (by kernel_rfl) (by kernel_rfl) (fun _ _ _ h => h) (Or.inr ⟨by rfl, rfl⟩) (by assumption) ?_
              try simp only [Act.put, List.setIfInBounds_toArray, List.set_cons_zero, List.set_cons_succ]
              refine take_at (i := 16) (d := some 45) (v := undef) rfl rfl (by kernel_rfl) (by kernel_rfl) (by kernel_rfl) (fun _ _ _ h => h) (Or.inr ⟨by rfl, rfl⟩) (by assumption) ?_
              try simp only [Act.put, List.setIfInBounds_toArray, List.set_cons_zero, List.set_cons_succ]
              refine take_at (i := 17) (d := some 46) (v := undef) rfl rfl (by kernel_rfl) (by kernel_rfl) (by kernel_rfl) (fun _ _ _ h => h) (Or.inr ⟨by rfl, rfl⟩) (by assumption) ?_
              try simp only [Act.put, List.setIfInBounds_toArray, List.set_cons_zero, List.set_cons_succ]
              refine take_at (i := 18) (d := some 47) (v := ?_) rfl rfl (by kernel_rfl) (by kernel_rfl) (by kernel_rfl) (fun _ _ _ h => h) (Or.inl ⟨by rfl, ?_⟩) (by assumption) ?_
              rotate_left
              · (intro w hSw; (try dsimp only at hSw); go_simp; try with_reducible rfl)
              try simp only [Act.put, List.setIfInBounds_toArray, List.set_cons_zero, List.set_cons_succ]
              refine take_at (i := 19) (d := some 48) (v := ?_) rfl rfl (by kernel_rfl) (by kernel_rfl) (by kernel_rfl) (fun _ _ _ h => h) (Or.inl ⟨by rfl, ?_⟩) (by assumption) ?_
              rotate_left
              · (intro w hSw; (try dsimp only at hSw); go_simp; try with_reducible rfl)
              try simp only [Act.put, List.setIfInBounds_toArray, List.set_cons_zero, List.set_cons_succ]
              refine take_at (i := 20) (d := some 49) (v := ?_) rfl rfl (by kernel_rfl) (by kernel_rfl) (by kernel_rfl) (fun _ _ _ h => h) (Or.inl ⟨by rfl, ?_⟩) (by assumption) ?_
              rotate_left
              · (intro w hSw; (try dsimp only at hSw); go_simp; try with_reducible rfl)
              try simp only [Act.put, List.setIfInBounds_toArray, List.set_cons_zero, List.set_cons_succ]
              refine take_at (i := 21) (d := some 50) (v := ?_) rfl rfl (by kernel_rfl) (by kernel_rfl) (by kernel_rfl) (fun _ _ _ h => h) (Or.inl ⟨by rfl, ?_⟩) (by assumption) ?_
              rotate_left
              · (intro w hSw; (try dsimp only at hSw); go_simp; try with_reducible rfl)
              try simp only [Act.put, List.setIfInBounds_toArray, List.set_cons_zero, List.set_cons_succ]
              refine take_at (i := 22) (d := some 51) (v := ?_) rfl rfl (by kernel_rfl) (by kernel_rfl) (by kernel_rfl) (fun _ _ _ h => h) (Or.inl ⟨by rfl, ?_⟩) (by assumption) ?_
              rotate_left
              · (intro w hSw; (try dsimp only at hSw); go_simp; try with_reducible rfl)
              try simp only [Act.put, List.setIfInBounds_toArray, List.set_cons_zero, List.set_cons_succ]
              refine take_at (i := 23) (d := some 52) (v := ?_) rfl rfl (by kernel_rfl) (by kernel_rfl) (by kernel_rfl) (fun _ _ _ h => h) (Or.inl ⟨by rfl, ?_⟩) (by assumption) ?_
              rotate_left
              · (intro w hSw; (try dsimp only at hSw); go_simp; try with_reducible rfl)
              try simp only [Act.put, List.setIfInBounds_toArray, List.set_cons_zero, List.set_cons_succ]
              refine take_at (i := 24) (d := some 53) (v := ?_) rfl rfl (by kernel_rfl) (by kernel_rfl) (by kernel_rfl) (fun _ _ _ h => h) (Or.inl ⟨by rfl, ?_⟩) (by assumption) ?_
              rotate_left
              · (intro w hSw; (try dsimp only at hSw); go_simp; try with_reducible rfl)
              try simp only [Act.put, List.setIfInBounds_toArray, List.set_cons_zero, List.set_cons_succ]
              refine take_at (i := 25) (d := some 54) (v := ?_) rfl rfl (by kernel_rfl) (by kernel_rfl) (by kernel_rfl) (fun _ _ _ h => h) (Or.inl ⟨by rfl, ?_⟩) (by assumption) ?_
              rotate_left
              · (intro w hSw; (try dsimp only at hSw); go_simp; try with_reducible rfl)
              try simp only [Act.put, List.setIfInBounds_toArray, List.set_cons_zero, List.set_cons_succ]
              refine take_at (i := 26) (d := some 55) (v := ?_) rfl rfl (by kernel_rfl) (by kernel_rfl) (by kernel_rfl) (fun _ _ _ h => h) (Or.inl ⟨by rfl, ?_⟩) (by assumption) ?_
              rotate_left
              · (intro w hSw; (try dsimp only at hSw); go_simp; try with_reducible rfl)
              try simp only [Act.put, List.setIfInBounds_toArray, List.set_cons_zero, List.set_cons_succ]
              refine take_at (i := 27) (d := some 56) (v := ?_) rfl rfl (by kernel_rfl) (by kernel_rfl) (by kernel_rfl) (fun _ _ _ h => h) (Or.inl ⟨by rfl, ?_⟩) (by assumption) ?_
              rotate_left
              · (intro w hSw; (try dsimp only at hSw); go_simp; try with_reducible rfl)
              try simp only [Act.put, List.setIfInBounds_toArray, List.set_cons_zero, List.set_cons_succ]
              refine take_at (i := 29) (d := some 58) (v := ?_) rfl rfl (by kernel_rfl) (by kernel_rfl) (by kernel_rfl) (fun _ _ _ h => h) (Or.inl ⟨by rfl, ?_⟩) (by assumption) ?_
              rotate_left
              · (intro w hSw; (try dsimp only at hSw); go_simp; try with_reducible rfl)
              try simp only [Act.put, List.setIfInBounds_toArray, List.set_cons_zero, List.set_cons_succ]
              refine take_at (i := 30) (d := some 59) (v := ?_) rfl rfl (by kernel_rfl) (by kernel_rfl) (by kernel_rfl) (fun _ _ _ h => h) (Or.inl ⟨by rfl, ?_⟩) (by assumption) ?_
              rotate_left
              · (intro w hSw; (try dsimp only at hSw); go_simp; try with_reducible rfl)
              try simp only [Act.put, List.setIfInBounds_toArray, List.set_cons_zero, List.set_cons_succ]
              refine take_at (i := 31) (d := some 60) (v := ?_) rfl rfl (by kernel_rfl) (by kernel_rfl) (by kernel_rfl) (fun _ _ _ h => h) (Or.inl ⟨by rfl, ?_⟩) (by assumption) ?_
              rotate_left
              · (intro w hSw; (try dsimp only at hSw); go_simp; try with_reducible rfl)
              try simp only [Act.put, List.setIfInBounds_toArray, List.set_cons_zero, List.set_cons_succ]
              refine take_at (i := 32) (d := some 61) (v := ?_) rfl rfl (by kernel_rfl) (by kernel_rfl) (by kernel_rfl) (fun _ _ _ h => h) (Or.inl ⟨by rfl, ?_⟩) (by assumption) ?_
              rotate_left
              · (intro w hSw; (try dsimp only at hSw); go_simp; try with_reducible rfl)
              try simp only [Act.put, List.setIfInBounds_toArray, List.set_cons_zero, List.set_cons_succ]
              refine take_at (i := 33) (d := some 62) (v := ?_) rfl rfl (by kernel_rfl) (by kernel_rfl) (by kernel_rfl) (fun _ _ _ h => h) (Or.inl ⟨by rfl, ?_⟩) (by assumption) ?_
              rotate_left
              · (intro w hSw; (try dsimp only at hSw); go_simp; try with_reducible rfl)
              try simp only [Act.put, List.setIfInBounds_toArray, List.set_cons_zero, List.set_cons_succ]
              refine take_at (i := 34) (d := some 63) (v := ?_) rfl rfl (by kernel_rfl) (by kernel_rfl) (by kernel_rfl) (fun _ _ _ h => h) (Or.inl ⟨by rfl, ?_⟩) (by assumption) ?_
              rotate_left
              · (intro w hSw; (try dsimp only at hSw); go_simp; try with_reducible rfl)
              try simp only [Act.put, List.setIfInBounds_toArray, List.set_cons_zero, List.set_cons_succ]
              refine take_at (i := 35) (d := some 64) (v := ?_) rfl rfl (by kernel_rfl) (by kernel_rfl) (by kernel_rfl) (fun _ _ _ h => h) (Or.inl ⟨by rfl, ?_⟩) (by assumption) ?_
              rotate_left
              · (intro w hSw; (try dsimp only at hSw); go_simp; try with_reducible rfl)
              try simp only [Act.put, List.setIfInBounds_toArray, List.set_cons_zero, List.set_cons_succ]
              refine wpAnyH_ready (rs := [28]) (by kernel_rfl) (by simp) ?_
              refine (AllReadyH.cons rfl (fun K hK => ?_) AllReadyH.nil)
              go_simp
              ((with_reducible refine (HSP.out _ (by repeat' first | exact Kw2.out | refine Kept.drew ?_)).mono ?_)); rintro e w4 ⟨rfl, kw4⟩
              have Kw4 : Hid (Kept [] wr w4) := Kept.trans (by repeat' first | exact Kw2.out | refine Kept.drew ?_) kw4
              clear kw4
              go_wp2_with fail
              refine hK.out _ _ ?_ (fun hHeld => ?_)
              · exact HS.out _ Kw4.out
              clear hK K
              try simp only [Act.put, List.setIfInBounds_toArray, List.set_cons_zero, List.set_cons_succ]
              refine wpAnyH_ready (rs := [36]) (by kernel_rfl) (by simp) ?_
              refine (AllReadyH.cons rfl (fun K hK => ?_) AllReadyH.nil)
              go_simp
              ((with_reducible refine (HSQ.out _ (by repeat' first | exact Kw4.out | refine Kept.drew ?_)).mono ?_)); rintro e w5 ⟨rfl, kw5⟩
              have Kw5 : Hid (Kept [] wr w5) := Kept.trans (by repeat' first | exact Kw4.out | refine Kept.drew ?_) kw5
              clear kw5
              go_wp2_with fail
              refine hK.out _ _ ?_ (fun hHeld => ?_)
              · exact HS.out _ Kw5.out
              clear hK K
              try simp only [Act.put, List.setIfInBounds_toArray, List.set_cons_zero, List.set_cons_succ]
              refine take_at (i := 37) (d := some 66) (v := ?_) rfl rfl (by kernel_rfl) (by kernel_rfl) (by kernel_rfl) (fun _ _ _ h => h) (Or.inl ⟨by rfl, ?_⟩) (by assumption) ?_
              rotate_left
              · (intro w hSw; (try dsimp only at hSw); go_simp; try with_reducible rfl)
              try simp only [Act.put, List.setIfInBounds_toArray, List.set_cons_zero, List.set_cons_succ]
              refine take_at (i := 38) (d := some 67) (v := ?_) rfl rfl (by kernel_rfl) (by kernel_rfl) (by kernel_rfl) (fun _ _ _ h => h) (Or.inl ⟨by rfl, ?_⟩) (by assumption) ?_
              rotate_left
              · (intro w hSw; (try dsimp only at hSw); go_simp; try with_reducible rfl)
              try simp only [Act.put, List.setIfInBounds_toArray, List.set_cons_zero, List.set_cons_succ]
              refine wpAnyH_done (by kernel_rfl) ?_ _
              go_wp2_with fail
              go_meet
              exact ⟨by first | rfl | (cases SM <;> rfl), Kw5.out⟩
          case rest =>
            obtain ⟨rfl, hkk⟩ := hcut
            go_wp2_with fail
            go_roundw
            case rel => exact ⟨k + 1, HLT.out, by go_num, by rw [HAT.out], hK.trans hkk⟩
            case measure => (have hh := HLT.out; simp [intOf]; omega)
      · obtain rfl : k = l.length := by omega
        have i1 : ¬ ((l.length : Int) < l.length) := by omega
        have hin := H.out.kept0 hK
        have htx := jtx _ l _ _ wr hin (by omega) (fun r hr => by have := (HFEW.out.2 r hr).1; omega)
        unfold TxSays at htx
        rw [List.take_length]
        by_cases h0 : l.length = 0
        · obtain ⟨e1, e2⟩ := tx_none h0
          rw [e1, e2, bs_nil] at htx
          have HTX := Lib.hid htx
          have h0' : (l.length : Int) = 0 := by omega
          have h0'' : ((l.length : Int) == 0) = true := by rw [h0']; rfl
          clear htx hin e1 e2 hlt h0
          generalize l.all mayR = AM at *
          generalize l.length = n at *
          go_wp2_with fail
          refine HTX.out.mono ?_; rintro e w1 ⟨rfl, k1⟩
          go_wp2_with fail
          refine (HAW.out _).mono ?_; rintro e w2 ⟨rfl, k2⟩
          have kk := (hK.trans k1).trans k2
          go_wp2_with fail
          go_ret
          exact ⟨rfl, kk.below⟩
        · have h0' : ((l.length : Int) == 0) = false := by rw [beq_eq_false_iff_ne]; omega
          cases hA : l.all mayR
          · have e1 : txCode l = 1 := by unfold txCode; rw [if_neg h0, hA]; rfl
            have e2 : txOut l = [] := by unfold txOut; rw [e1]; rfl
            rw [e1, e2, bs_nil] at htx
            have HTX := Lib.hid htx
            clear htx hin e1 e2 hlt h0 hA
            generalize l.length = n at *
            go_wp2_with fail
            refine HTX.out.mono ?_; rintro e w1 ⟨rfl, k1⟩
            go_wp2_with fail
            refine (HAW.out _).mono ?_; rintro e w2 ⟨rfl, k2⟩
            have kk := (hK.trans k1).trans k2
            go_wp2_with fail
            go_ret
            exact ⟨rfl, kk.below⟩
          · have hmay := List.all_eq_true.1 hA
            have e1 : txCode l = 0 := by unfold txCode; rw [if_neg h0, if_pos hA]
            have e2 : txOut l = txL l := by unfold txOut; rw [if_pos e1]
            have hokk : ∀ r ∈ l, mayR r = true ∧ r.fits := fun r hr => ⟨hmay r hr, HFITS.out r hr⟩
            have hlen := txL_len hokk hl30
            have hro : readO (txL l) = some [l] := by
              have := readO_lay [l] (fun x hx => by
                have : x = l := by simpa using hx
                subst this
                exact ⟨hokk, by omega, by omega⟩)
              simpa using this
            rw [e1, e2] at htx
            have hr := fun W => jread (txL l) W (by omega)
            unfold ReadSays at hr
            rw [hro] at hr
            have hq := fun W (kk : Kept [] wr W) => qtx _ l _ _ W (hin.kept0 kk) (by omega) (fun r hr => rec_ok (hokk r hr).1 (hokk r hr).2)
            have hsa := fun W v lo hi (kk : Kept [] wr W) (h : RecsIn W v l lo hi) => qsameall v _ l lo hi _ _ W h (hin.kept0 kk) (fun r hr => by have := (HFEW.out.2 r hr).1; omega)
            obtain ⟨ln, hln⟩ : ∃ ln, l.length = ln := ⟨_, rfl⟩
            have HTX := Lib.hid htx
            have HR := Lib.hid hr
            have HQ := Lib.hid hq
            have HSA := Lib.hid hsa
            have HLN := Lib.hid hln
            clear htx hin e1 e2 hlt h0 hA hr hq hsa hmay hokk hro hlen hln
            generalize bs (txL l) = T at *
            go_wp2_with fail
            refine HTX.out.mono ?_; rintro e w1 ⟨rfl, k1⟩
            clear HTX
            go_wp2_with fail
            refine (HR.out _).mono ?_; rintro e w2 ⟨hc, k2⟩
            clear HR
            rcases hc with ⟨ls, v, hls, hrow, rfl⟩ | ⟨hno, _⟩
            · have hls : [l] = ls := by injection hls
              subst hls
              obtain ⟨pv, cv, rfl⟩ := hrow.shape
              have k12 := k1.trans k2
              have HROW := Lib.hid hrow
              clear hrow
              go_wp2_with fail
              refine (HQ.out _ k12).mono ?_; rintro e w3 ⟨rfl, k3⟩
              have hrow3 := (HROW.out.kept0 k3).in_
              obtain ⟨g, off2, kv, lo1, hi1, he, q0, hrec, _, _, _⟩ := hrow3.at_ 0 (by simp)
              subst he
              have hs3 := HSA.out w3 kv lo1 hi1 (k12.trans k3) hrec
              obtain ⟨p2, c2', rfl⟩ := hrec.shape
              have HS3 := Lib.hid hs3
              have q0' : w3.cell? ⟨g, off2, none⟩ = some (.slice p2 l.length c2') := q0
              clear hs3 hrec hrow3 q0 HSA HQ HROW
              go_wp2_with fail
              refine HS3.out.mono ?_; rintro e w4 ⟨rfl, k4⟩
              go_wp2_with fail
              refine (HAW.out _).mono ?_; rintro e w5 ⟨rfl, k5⟩
              have kk := (((hK.trans k12).trans k3).trans k4).trans k5
              go_wp2_with fail
              go_ret
              exact ⟨rfl, kk.below⟩
            · cases hno
  · clear HSM
    go_wp2_with fail
    refine (HAW.out _).mono ?_; rintro e w4 ⟨rfl, k4⟩
    go_wp2_with fail
    go_ret
    exact ⟨rfl, k4.below⟩
end Go.Proofs.Ytegbekeopgponaa
