/- Walks of layer 11 (super): a superblock's sector. -/
import Derived.Test.YtpdmnjcklpklnaaR7
import Derived.Test.YtpdmnjcklpklnaaQ4
namespace Go.Proofs.Ytpdmnjcklpklnaa
open Go.RowKit
set_option linter.unusedVariables false
set_option linter.unusedSimpArgs false

/-- the bytes of runs. -/
def runsL (l : List (Int × Int)) : List UInt8 := (l.map fun r => numL r.1.toNat 2 ++ numL r.2.toNat 2).flatten
/-- the bytes of a superblock, ahead of what is filled up. -/
def SB.body (s : SB) : List UInt8 :=
  magicL ++ numL s.seq 8 ++ numL s.sectors.toNat 4 ++ numL s.journal.toNat 4 ++ numL s.used.toNat 4 ++ numL s.size.toNat 4 ++ numL s.runs.length 2 ++ numL 0 2 ++ runsL s.runs
def SB.sector (s : SB) : List UInt8 := sealL (fillL s.body 124)
theorem lys_runs (l : List (Int × Int)) : (((l.map fun r => [Ly.hf r.1.toNat, Ly.hf r.2.toNat]).flatten).map Ly.txt).flatten = runsL l := by
  induction l with
  | nil => rfl
  | cons a l ih =>
    simp only [List.map_cons, List.flatten_cons, List.map_append, List.flatten_append, runsL]
    rw [ih]
    simp [Ly.txt, runsL]
theorem lys_body (s : SB) (v : Value) : ((s.lys v s.runs.length).map Ly.txt).flatten = s.body := by
  unfold SB.lys
  rw [List.take_length, List.map_append, List.flatten_append, lys_runs]
  simp [Ly.txt, SB.body]
theorem runsL_len (l : List (Int × Int)) : (runsL l).length = 4 * l.length := by
  induction l with
  | nil => rfl
  | cons a l ih => simp only [runsL, List.map_cons, List.flatten_cons, List.length_append, numL_len, List.length_cons] at *; omega
theorem body_len (s : SB) : s.body.length = 36 + 4 * s.runs.length := by
  simp only [SB.body, List.length_append, numL_len, runsL_len, magicL, List.length_cons, List.length_nil]
theorem fill_len (l : List UInt8) (h : l.length ≤ 124) : (fillL l 124).length = 124 := by
  unfold fillL; rw [List.length_append, List.length_replicate]; omega
theorem sector_len (s : SB) (h : s.runs.length ≤ 16) : s.sector.length = 128 := by
  unfold SB.sector sealL
  rw [List.length_append, numL_len, fill_len _ (by rw [body_len]; omega)]

theorem pfields (s : SB) (v : Value) (lo hi : Nat) (w : World) (h : RunsIn w v s.runs lo hi) (hm : s.may) (hq : s.seq < 18446744073709551616) :
    Calls Try.prog 24 #[.agg (s.cells v)] w fun e w' => (∃ r zs, e = .returned r ∧ LaysAt w' w.heap.size r zs ∧ zs.map (·.2) = s.lys v s.runs.length) ∧ Kept [] w w' := by
  obtain ⟨⟨g1, g2, g3, g4, g5, g6, g7, g8, g9, g10⟩, hL, _⟩ := hm
  have hLO := lieTo_ok (Nat.le_refl _) hL
  obtain ⟨sq, a, b, u, z, l⟩ := s
  simp only at *
  obtain ⟨a, rfl⟩ := Int.eq_ofNat_of_zero_le (show 0 ≤ a by omega)
  obtain ⟨b, rfl⟩ := Int.eq_ofNat_of_zero_le (show 0 ≤ b by omega)
  obtain ⟨u, rfl⟩ := Int.eq_ofNat_of_zero_le (show 0 ≤ u by omega)
  obtain ⟨z, rfl⟩ := Int.eq_ofNat_of_zero_le (show 0 ≤ z by omega)
  exact pfields' sq a b u z l v lo hi w h hq (by omega) (by omega) (by omega) (by omega) g10 (fun k hk => by
    have := okRun_iff.1 (hLO k hk)
    omega)

set_option maxRecDepth 100000 in
set_option maxHeartbeats 2000000 in
theorem pput (s : SB) (v : Value) (lo hi : Nat) (w : World) (h : RunsIn w v s.runs lo hi) (hm : s.may) (hq : s.seq < 18446744073709551616) :
    Calls Try.prog 10 #[.agg (s.cells v)] w fun e w' => e = .returned (.tuple #[.string (bs s.sector), .int .i64 0]) ∧ Kept [] w w' := by
  have hl16 : s.runs.length ≤ 16 := hm.1.2.2.2.2.2.2.2.2.2
  have hC := fun w' (hk : Kept [] w w') => (pcheck s v lo hi w' (h.kept0 hk) (by omega)).mono fun e w'' hh => (show e = .returned (.int .i64 0) ∧ Kept [] w' w'' from ⟨by
    rcases hh.1 with ⟨_, e1⟩ | ⟨e1, _⟩
    · exact e1
    · exact absurd hm e1, hh.2⟩)
  have hF := fun w' (hk : Kept [] w w') => pfields s v lo hi w' (h.kept0 hk) hm hq
  have o := Own.new w (s.cells v) 25
  have hb := body_len s
  have hbody := lys_body s v
  have HB := Lib.hid hbody
  have hfill := fun w => packFill (bs s.body) 124 w (by rw [bs_size]; omega) (by omega)
  rw [bs_data] at hfill
  have hseal := fun w => cseal (fillL s.body 124) w (by rw [fill_len _ (by omega)]; omega)
  have hsec : sealL (fillL s.body 124) = s.sector := rfl
  rw [hsec] at hseal
  have HC := Lib.hid hC
  have HF := Lib.hid hF
  clear hC hF h hm hbody hsec
  generalize fillL s.body 124 = FL at *
  generalize s.sector = SL at *
  unfold SB.cells at *
  go_enter Try.func10, Try.ntmps10
  obtain ⟨d0, d1, d2, d3, d4, d5⟩ := o.c6
  go_wp2_with fail
  refine (HC.out _ ((Kept.refl _ _).alloc _)).mono ?_; rintro e w1 ⟨rfl, hk1⟩
  have o1 := hk1.own o (by simp)
  obtain ⟨d0, d1, d2, d3, d4, d5⟩ := o1.c6
  go_wp2_with fail
  refine (HF.out _ (((Kept.refl _ _).alloc _).trans hk1)).mono ?_; rintro e w2 ⟨⟨r, zs, rfl, ⟨hown, hlay⟩, hzs⟩, hk2⟩
  have hzl : zs.length = (s.lys v s.runs.length).length := by rw [← hzs, List.length_map]
  have hzl2 : zs.length = 7 + 2 * s.runs.length := by
    rw [hzl]; unfold SB.lys; rw [List.take_length, List.length_append]
    have : ∀ l : List (Int × Int), ((l.map fun r => [Ly.hf r.1.toNat, Ly.hf r.2.toNat]).flatten).length = 2 * l.length := fun l => by
      induction l with
      | nil => rfl
      | cons a l ih => simp only [List.map_cons, List.flatten_cons, List.length_append, List.length_cons, ih, List.length_nil]; omega
    rw [this]; rfl
  have htx : (zs.map fun z => z.2.txt).flatten = s.body := by
    rw [← HB.out, ← hzs, List.map_map]; rfl
  have HT := Lib.hid htx
  have hkk : Kept [] w w2 := (((Kept.refl _ _).alloc _).trans hk1).trans hk2
  have hw12 : w.heap.size ≤ w1.heap.size := by have := hk1.size; simp at this; omega
  clear hzl hzs htx HF HC HB
  obtain ⟨g, cap, rfl, hg⟩ : ∃ g cap, r = .slice (some ⟨g, 0, none⟩) zs.length cap ∧ (Value.slice (some ⟨g, 0, none⟩) zs.length cap).ownBlock = some g := by
    rcases hown.2 with ⟨_, hx⟩ | ⟨g, cap, cur, rfl, _⟩
    · omega
    · exact ⟨g, cap, rfl, rfl⟩
  have hzb : zs.length ≤ 100 := by omega
  have H2 := Lib.hid hzl2
  clear hzl2
  go_wp2_with fail
  go_loopw [5, 16] (fun t i wr => ∃ k : Nat, k ≤ zs.length ∧ i = .int .i64 k ∧ t = .string (bs ((zs.take k).map fun z => z.2.txt).flatten) ∧ Kept [] w2 wr) (fun _ i _ => zs.length - (intOf i).toNat)
  case atStart => exact ⟨0, by omega, rfl, rfl, Kept.refl _ _⟩
  case round =>
    obtain ⟨k, hk, rfl, rfl, hK⟩ := hrel
    by_cases hlt : k < zs.length
    · have hown3 := ownsRow_kept hown hK (by simp)
      have hla := (hlay zs[k] (List.getElem_mem _)).kept hK (by simp)
      have hcell := World.ownsRow.cells hown3 hg k zs[k].1 (by simp [hlt])
      rw [Go.WideShapes.add_plain, Nat.zero_add] at hcell
      have hbig : ((zs.take (k + 1)).map fun z => z.2.txt).flatten = ((zs.take k).map fun z => z.2.txt).flatten ++ zs[k].2.txt := by
        rw [List.take_succ_eq_append_getElem hlt, List.map_append, List.flatten_append]
        congr 1; simp
      have hsz : (((zs.take k).map fun z => z.2.txt).flatten).length ≤ 1000 := by
        have e1 : (zs.map fun z => z.2.txt).flatten = ((zs.take k).map fun z => z.2.txt).flatten ++ ((zs.drop k).map fun z => z.2.txt).flatten := by
          rw [← List.flatten_append, ← List.map_append, List.take_append_drop]
        have e2 := congrArg List.length (e1.symm.trans HT.out)
        rw [List.length_append] at e2; omega
      have hsz0 : (bs ((zs.take k).map fun z => z.2.txt).flatten).size ≤ 1000 := by rw [bs_size]; exact hsz
      have hfin : Hid (bs ((zs.take k).map fun z => z.2.txt).flatten ++ bs zs[k].2.txt = bs ((zs.take (k + 1)).map fun z => z.2.txt).flatten) := by
        show bs _ ++ bs _ = _; rw [bs_append, hbig]
      have HLT := Lib.hid hlt
      clear hbig hsz hown3
      generalize ((zs.take k).map fun z => z.2.txt).flatten = T at *
      generalize hT2 : ((zs.take (k + 1)).map fun z => z.2.txt).flatten = T2 at *
      have HT2 := Lib.hid hT2
      clear hT2
      generalize zs[k].1 = f at *
      generalize zs[k].2 = y at *
      cases y with
      | hd s' u =>
        obtain ⟨g', _, rfl, ho, hs⟩ := hla
        have hz2 : (bs (Ly.hd s' u).txt).size ≤ 100 := by rw [bs_size]; simp [Ly.txt, numL_len, magicL]
        have hc := fun w h => cl_hd g' s' u w h hs
        rw [show magicL ++ numL s'.seq 8 = (Ly.hd s' u).txt from rfl] at hc
        generalize (Ly.hd s' u).txt = tx at *
        go_wp2_with fail
        refine (hc _ ho).mono ?_; rintro e w3 ⟨rfl, hk3⟩
        go_wp2_with fail
        go_roundw
        case rel => exact ⟨k + 1, HLT.out, by go_num, by rw [HT2.out, ← hfin.out], hK.trans hk3⟩
        case measure => (have hh := HLT.out; simp [intOf]; omega)
      | wd n =>
        obtain ⟨g', _, rfl, ho, hs⟩ := hla
        have hz2 : (bs (Ly.wd n).txt).size ≤ 100 := by rw [bs_size]; simp [Ly.txt, numL_len]
        have hc := fun w h => cl_wd g' n w h hs
        rw [show numL n 4 = (Ly.wd n).txt from rfl] at hc
        generalize (Ly.wd n).txt = tx at *
        go_wp2_with fail
        refine (hc _ ho).mono ?_; rintro e w3 ⟨rfl, hk3⟩
        go_wp2_with fail
        go_roundw
        case rel => exact ⟨k + 1, HLT.out, by go_num, by rw [HT2.out, ← hfin.out], hK.trans hk3⟩
        case measure => (have hh := HLT.out; simp [intOf]; omega)
      | hf n =>
        obtain ⟨g', _, rfl, ho, hs⟩ := hla
        have hz2 : (bs (Ly.hf n).txt).size ≤ 100 := by rw [bs_size]; simp [Ly.txt, numL_len]
        have hc := fun w h => cl_hf g' n w h hs
        rw [show numL n 2 = (Ly.hf n).txt from rfl] at hc
        generalize (Ly.hf n).txt = tx at *
        go_wp2_with fail
        refine (hc _ ho).mono ?_; rintro e w3 ⟨rfl, hk3⟩
        go_wp2_with fail
        go_roundw
        case rel => exact ⟨k + 1, HLT.out, by go_num, by rw [HT2.out, ← hfin.out], hK.trans hk3⟩
        case measure => (have hh := HLT.out; simp [intOf]; omega)
    · obtain rfl : k = zs.length := by omega
      have e1 : ((zs.take zs.length).map fun z => z.2.txt).flatten = s.body := by rw [List.take_length]; exact HT.out
      rw [e1] at *
      clear e1
      generalize s.body = B at *
      go_wp2_with fail
      refine (hfill _).mono ?_; rintro e w3 ⟨rfl, hk3⟩
      go_wp2_with fail
      refine (hseal _).mono ?_; rintro e w4 ⟨rfl, hk4⟩
      go_wp2_with fail
      go_ret2
      exact ⟨rfl, ((hkk.trans hK).trans hk3).trans hk4⟩

set_option maxRecDepth 100000 in
theorem pput_no (s : SB) (v : Value) (lo hi : Nat) (w : World) (h : RunsIn w v s.runs lo hi) (hl : s.runs.length ≤ 1000000) (hm : ¬ s.may) :
    Calls Try.prog 10 #[.agg (s.cells v)] w fun e w' => e = .returned (.tuple #[.string (bs []), .int .i64 1]) ∧ Kept [] w w' := by
  have hC := fun w' (hk : Kept [] w w') => (pcheck s v lo hi w' (h.kept0 hk) hl).mono fun e w'' hh => (show e = .returned (.int .i64 1) ∧ Kept [] w' w'' from ⟨by
    rcases hh.1 with ⟨e1, _⟩ | ⟨_, e1⟩
    · exact absurd e1 hm
    · exact e1, hh.2⟩)
  have o := Own.new w (s.cells v) 25
  have HC := Lib.hid hC
  clear hC h hm
  unfold SB.cells at *
  go_enter Try.func10, Try.ntmps10
  obtain ⟨d0, d1, d2, d3, d4, d5⟩ := o.c6
  go_wp2_with fail
  refine (HC.out _ ((Kept.refl _ _).alloc _)).mono ?_; rintro e w1 ⟨rfl, hk1⟩
  go_wp2_with fail
  go_ret2
  exact ⟨rfl, ((Kept.refl _ _).alloc _).trans hk1⟩
end Go.Proofs.Ytpdmnjcklpklnaa
