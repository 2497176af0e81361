/- Layer 12 (blob): bytes copied, as the document says. -/
import Derived.Test.YtdnbddhjdokbfaaG01
import Derived.Test.YtdnbddhjdokbfaaG02
import Derived.Test.YtdnbddhjdokbfaaG04
import Derived.Test.YtdnbddhjdokbfaaG13
import Derived.Test.YtdnbddhjdokbfaaG24
import Derived.Test.YtdnbddhjdokbfaaG34
import Derived.Deep.SlicePairs
import Derived.ProofKit
import Derived.OpenShut
import Derived.BigQuiet
namespace Go.Proofs.Ytdnbddhjdokbfaa
open Go.RowKit Go.Shelf
set_option linter.unusedVariables false
set_option linter.unusedSimpArgs false

set_option maxRecDepth 100000 in
set_option maxHeartbeats 2000000 in
theorem qcopy {Inv : DK → World → Prop} {r lim : Nat} (O : QBOps Inv r lim) (d : DK) (va : Value) (la : List (Int × Int)) (loa hia : Nat) (vb : Value) (lb : List (Int × Int)) (lob hib : Nat) (size : Int) (w : World) (hI : Inv d w) (hlim : lim ≤ w.heap.size)
    (ha : RunsIn w va la loa hia) (hb : RunsIn w vb lb lob hib) (hla : la.length ≤ 1000000) (hlb : lb.length ≤ 1000000) (hwa : ∀ a ∈ la, WfRun a) (hwb : ∀ a ∈ lb, WfRun a) (hsz : (Lit.int .i64 size).wf = true) (ho : d.ops ≤ 90000) (hw : d.waits.length ≤ 1800) :
    Calls Try.prog 54 #[.pointer (some ⟨r, 0, none⟩), va, vb, .int .i64 size] w (CopySays Inv lim d la lb size w) := by
  obtain ⟨n1, n2⟩ := O.ops.len hI
  have HA : ∀ W, Kept [] w W → Calls Try.prog 11 #[va, .int .i64 d.stand.length, .int .i64 size] W (FitSays la d.stand.length size W) := fun W k => qFit va la _ _ loa hia W (ha.kept0 k) hla hwa (wf_few (by omega)) hsz
  have HB : ∀ W, Kept [] w W → Calls Try.prog 11 #[vb, .int .i64 d.stand.length, .int .i64 size] W (FitSays lb d.stand.length size W) := fun W k => qFit vb lb _ _ lob hib W (hb.kept0 k) hlb hwb (wf_few (by omega)) hsz
  have HC : ∀ W, Kept [] w W → Calls Try.prog 77 #[va, vb] W (GivesR (commonL la lb) W) := fun W k => zcommon va la loa hia vb lb lob hib W (ha.kept0 k) (hb.kept0 k) hla hlb hwa hwb
  have HG : ∀ W, Kept [] w W → Calls Try.prog 53 #[.pointer (some ⟨r, 0, none⟩), va, .int .i64 size] W (GetSays d la size W) := fun W k => qget O d va la size loa hia W (O.ops.keep hI k) (ha.kept0 k) hla hwa hsz
  have HP : ∀ W, Kept [] w W → ∀ s : List UInt8, s.length ≤ 1048576 → Calls Try.prog 52 #[.pointer (some ⟨r, 0, none⟩), vb, .string (bs s)] W (PutSays Inv lim d lb s W) := fun W k s hs => qput O d vb lb s lob hib W (O.ops.keep hI k) (Nat.le_trans hlim k.size) (hb.kept0 k) hlb hwb hs ho hw
  have HI : Hid (∀ W, Kept [] w W → Inv d W ∧ AsideW lim w W) := Lib.hid (fun W k => ⟨O.ops.keep hI k, k.asideW lim⟩)
  have HS : ∀ W, Kept [] w W → ∃ p c, W.cell? ⟨r, 0, none⟩ = some (.slice p d.stand.length c) := fun W k => O.stands (HI.out W k).1
  have hfit := O.ops.fit hI
  obtain ⟨pa, ca, rfl⟩ := ha.shape
  obtain ⟨pb, cb, rfl⟩ := hb.shape
  clear ha hb hwa hwb hsz hI ho hw hlim
  have k0 := Kept.refl [] w
  obtain ⟨ps, cs, c0⟩ := HS w k0
  obtain ⟨N, hN⟩ : ∃ N : Nat, d.stand.length = N := ⟨_, rfl⟩
  rw [hN] at c0 HA HB n1 n2
  simp only [hN] at HS
  have HNN := Lib.hid hN
  by_cases hX : FitX la N size
  · by_cases hY : FitX lb N size
    · have hX' : FitX la d.stand.length size := by rw [hN]; exact hX
      have hY' : FitX lb d.stand.length size := by rw [hN]; exact hY
      obtain ⟨c, hc⟩ : ∃ c, getCode d la size = c := ⟨_, rfl⟩
      have hcv : c = 0 ∨ c = 90 := by rw [← hc, getCode_yes hX']; by_cases hd : d.down = true <;> simp [hd]
      have HCC : ∀ W l, GivesR (commonL la lb) w W l → True := fun _ _ _ => trivial
      have HZ : ∀ W v, RunsIn W v (commonL la lb) 0 W.heap.size → Calls Try.prog 34 #[v] W fun e w' => e = .returned (.int .i64 (countL (commonL la lb))) ∧ Kept [] W w' := fun W v h => zcount v _ 0 _ W h (Nat.le_trans canon_le (by omega)) (canon_wf _)
      obtain ⟨cl, hcl⟩ : ∃ cl, countL (commonL la lb) = cl := ⟨_, rfl⟩
      rw [hcl] at HZ
      have HXX := Lib.hid hX
      have HYY := Lib.hid hY
      have HCW : ∀ W, Kept [] w W → Calls Try.prog 77 #[.slice pa la.length ca, .slice pb lb.length cb] W fun e w' => ∃ v, e = .returned v ∧ RunsIn w' v (commonL la lb) 0 w'.heap.size ∧ Kept [] W w' := fun W k => (HC W k).mono (fun e w' h => by
        obtain ⟨v, h1, h2, h3⟩ := h.runs
        exact ⟨v, h1, h2.wide, h3⟩)
      by_cases h0 : cl = 0
      · subst h0
        by_cases hz : c = 0
        · subst hz
          have hgl := getX_len hfit la size hc
          have hr : copyX d la lb size = putX d lb (getX d la size) := by unfold copyX; rw [if_pos ⟨hX', hY', hcl⟩, if_pos hc]
          have hle : (getX d la size).length ≤ 1048576 := by have := fitX_size hX; omega
          unfold GetSays at HG
          rw [hc] at HG
          have HR := Lib.hid hr
          have HP2 := fun W (k : Kept [] w W) => HP W k (getX d la size) hle
          clear hr hX hY hX' hY' hc hcl hfit hgl hle HP hcv HC HCC HNN hN
          generalize getX d la size = S at *
          go_enter Try.func54, Try.ntmps54
          go_wp2_with fail
          refine (HA _ k0).mono ?_; rintro e w1 ⟨q, rfl, hq, k1⟩
          obtain rfl : q = true := hq.2 HXX.out
          obtain ⟨ps1, cs1, c01⟩ := HS _ k1
          clear hq HA
          go_wp2_with fail
          refine (HB _ k1).mono ?_; rintro e w2 ⟨q, rfl, hq, k2⟩
          have k12 := k1.trans k2
          obtain rfl : q = true := hq.2 HYY.out
          clear hq HB
          go_wp2_with fail
          refine (HCW _ k12).mono ?_; rintro e w3 ⟨v3, rfl, r3, k3⟩
          have k13 := k12.trans k3
          go_wp2_with fail
          refine (HZ _ _ r3).mono ?_; rintro e w4 ⟨rfl, k4⟩
          have k14 := k13.trans k4
          go_wp2_with fail
          refine (HG _ k14).mono ?_; rintro e w5 ⟨rfl, k5⟩
          have k15 := k14.trans k5
          go_wp2_with fail
          refine (HP2 _ k15).mono ?_; rintro e w6 ⟨rfl, hI5, hA5⟩
          go_wp2_with fail
          go_ret
          unfold CopySays
          rw [HR.out]
          exact ⟨rfl, hI5, (k15.asideW lim).trans hA5⟩
        · obtain rfl : c = 90 := by omega
          have hr : copyX d la lb size = (d, 90) := by unfold copyX; rw [if_pos ⟨hX', hY', hcl⟩, if_neg (by rw [hc]; decide), hc]
          have HR := Lib.hid hr
          have HG2 : ∀ W, Kept [] w W → Calls Try.prog 53 #[.pointer (some ⟨r, 0, none⟩), .slice pa la.length ca, .int .i64 size] W fun e w' => e = .returned (.tuple #[.string ⟨#[]⟩, .int .i64 90]) ∧ Kept [] W w' := fun W k => (HG W k).mono (fun e w' h => by
            obtain ⟨h1, h2⟩ := h
            refine ⟨?_, h2⟩
            rw [h1, hc]
            have : getX d la size = [] := by unfold getX; rw [if_neg (by rw [hc]; decide)]
            rw [this]; rfl)
          clear hr hX hY hX' hY' hc hcl hfit HP hcv HC HCC HNN hN HG
          go_enter Try.func54, Try.ntmps54
          go_wp2_with fail
          refine (HA _ k0).mono ?_; rintro e w1 ⟨q, rfl, hq, k1⟩
          obtain rfl : q = true := hq.2 HXX.out
          obtain ⟨ps1, cs1, c01⟩ := HS _ k1
          clear hq HA
          go_wp2_with fail
          refine (HB _ k1).mono ?_; rintro e w2 ⟨q, rfl, hq, k2⟩
          have k12 := k1.trans k2
          obtain rfl : q = true := hq.2 HYY.out
          clear hq HB
          go_wp2_with fail
          refine (HCW _ k12).mono ?_; rintro e w3 ⟨v3, rfl, r3, k3⟩
          have k13 := k12.trans k3
          go_wp2_with fail
          refine (HZ _ _ r3).mono ?_; rintro e w4 ⟨rfl, k4⟩
          have k14 := k13.trans k4
          go_wp2_with fail
          refine (HG2 _ k14).mono ?_; rintro e w5 ⟨rfl, k5⟩
          have k15 := k14.trans k5
          go_wp2_with fail
          go_ret
          exact copySays_of HR.out (HI.out _ k15).1 (HI.out _ k15).2
      · have hr : copyX d la lb size = (d, 1) := by unfold copyX; rw [if_neg (fun h => h0 (by rw [← hcl]; exact h.2.2))]
        have HR := Lib.hid hr
        have i1 : 0 < (cl : Int) := by omega
        clear hr hX hY hX' hY' hc hcl hfit HP hcv HC HCC HNN hN HG
        go_enter Try.func54, Try.ntmps54
        go_wp2_with fail
        refine (HA _ k0).mono ?_; rintro e w1 ⟨q, rfl, hq, k1⟩
        obtain rfl : q = true := hq.2 HXX.out
        obtain ⟨ps1, cs1, c01⟩ := HS _ k1
        clear hq HA
        go_wp2_with fail
        refine (HB _ k1).mono ?_; rintro e w2 ⟨q, rfl, hq, k2⟩
        have k12 := k1.trans k2
        obtain rfl : q = true := hq.2 HYY.out
        clear hq HB
        go_wp2_with fail
        refine (HCW _ k12).mono ?_; rintro e w3 ⟨v3, rfl, r3, k3⟩
        have k13 := k12.trans k3
        go_wp2_with fail
        refine (HZ _ _ r3).mono ?_; rintro e w4 ⟨rfl, k4⟩
        have k14 := k13.trans k4
        go_wp2_with fail
        go_ret
        exact copySays_of HR.out (HI.out _ k14).1 (HI.out _ k14).2
    · have hr : copyX d la lb size = (d, 1) := by unfold copyX; rw [if_neg (fun h => hY (by rw [← hN]; exact h.2.1))]
      have HR := Lib.hid hr
      have HXX := Lib.hid hX
      have HYY := Lib.hid hY
      clear hr hX hY HC HG HP hfit hN HNN
      go_enter Try.func54, Try.ntmps54
      go_wp2_with fail
      refine (HA _ k0).mono ?_; rintro e w1 ⟨q, rfl, hq, k1⟩
      obtain rfl : q = true := hq.2 HXX.out
      obtain ⟨ps1, cs1, c01⟩ := HS _ k1
      clear hq HA
      go_wp2_with fail
      refine (HB _ k1).mono ?_; rintro e w2 ⟨q, rfl, hq, k2⟩
      have k12 := k1.trans k2
      obtain rfl : q = false := by
        cases q
        · rfl
        · exact absurd (hq.1 rfl) HYY.out
      clear hq
      go_wp2_with fail
      go_ret
      exact copySays_of HR.out (HI.out _ k12).1 (HI.out _ k12).2
  · have hr : copyX d la lb size = (d, 1) := by unfold copyX; rw [if_neg (fun h => hX (by rw [← hN]; exact h.1))]
    have HR := Lib.hid hr
    have HXX := Lib.hid hX
    clear hr hX HC HG HP hfit hN HNN HB
    go_enter Try.func54, Try.ntmps54
    go_wp2_with fail
    refine (HA _ k0).mono ?_; rintro e w1 ⟨q, rfl, hq, k1⟩
    obtain rfl : q = false := by
      cases q
      · rfl
      · exact absurd (hq.1 rfl) HXX.out
    clear hq
    go_wp2_with fail
    go_ret
    exact copySays_of HR.out (HI.out _ k1).1 (HI.out _ k1).2
end Go.Proofs.Ytdnbddhjdokbfaa

/- Layer 12 (blob): the law's texts, and its rows of numbers. -/
namespace Go.Proofs.Ytdnbddhjdokbfaa
open Go.RowKit
set_option linter.unusedVariables false
set_option linter.unusedSimpArgs false

/-- so many bytes, each by its place. -/
def tabL (f : Nat → UInt8) (n : Nat) : List UInt8 := (List.range n).map f
theorem tabL_len (f : Nat → UInt8) (n : Nat) : (tabL f n).length = n := by simp [tabL]
theorem tabL_succ (f : Nat → UInt8) (n : Nat) : tabL f (n + 1) = tabL f n ++ [f n] := by simp [tabL, List.range_succ]
theorem tab_step {w : World} {b k i : Nat} {t : TypeId} {f : Nat → UInt8} {x : Int} (ho : Own w b (bcells (tabL f i ++ List.replicate (k - i) 0)) t) (hlt : i < k) (hx : x = ((f i).toNat : Int)) :
    Own (w.setCell ⟨b, i, none⟩ (.int .u8 x)) b (bcells (tabL f (i + 1) ++ List.replicate (k - (i + 1)) 0)) t := by
  subst hx
  have h := ho.set i (.int .u8 ((f i).toNat : Int))
  rw [bcells_set] at h
  have e2 : (tabL f i ++ List.replicate (k - i) 0).set i (f i) = tabL f (i + 1) ++ List.replicate (k - (i + 1)) 0 := by
    obtain ⟨d, hd⟩ : ∃ d, k - i = d + 1 := ⟨k - i - 1, by omega⟩
    have hd' : k - (i + 1) = d := by omega
    rw [hd, hd', List.replicate_succ, tabL_succ, List.set_append_right _ _ (by rw [tabL_len]; exact Nat.le_refl _), tabL_len, Nat.sub_self]
    simp
  rw [e2] at h
  exact h
def textV (n : Nat) : List UInt8 := tabL (fun i => UInt8.ofNat (i % 251 + 1)) n
def fillB (n : Nat) (c : UInt8) : List UInt8 := tabL (fun _ => c) n

set_option maxRecDepth 100000 in
theorem make_bytes (k : Nat) (hk : k ≤ 1000000) (w : World) : (Instr.makeSlice 38 (.int .i64 k) (.int .i64 k)).run Try.prog w = .ok (.slice (some ⟨w.heap.size, 0, none⟩) k k) (w.alloc (.cells (bcells (List.replicate k 0)) 5)) := by
  have hi : (Try.prog.info? 5).map (fun i => (i.zero, i.size, i.bytes)) = some (some (.int .u8 0), 1, 1) := by kernel_rfl
  obtain ⟨i0, hi0, hz0, hz1, hz2⟩ := info_parts hi
  have h := run_make (P := Try.prog) w 38 5 i0 (.int .u8 0) Try.underlying38 hi0 hz0 .i64 .i64 k k (by omega) (by omega) (by rw [hz2]; omega) (by omega)
  rw [h, hz1]
  congr 3
  apply Array.toList_inj.1
  simp [bcells, Value.cells, toList_madeCells_one]
set_option maxRecDepth 100000 in
theorem vtext (k : Nat) (w : World) (hk : k ≤ 1000000) :
    Calls Try.prog 18 #[.int .i64 k] w fun e w' => e = .returned (.string (bs (textV k))) ∧ Kept [] w w' := by
  have hmk := make_bytes k hk
  go_enter Try.func18, Try.ntmps18
  go_wp2_with fail
  go_loopw [9] (fun x wr => ∃ i : Nat, i ≤ k ∧ x = .int .i64 i ∧ Own wr w.heap.size (bcells (tabL (fun i => UInt8.ofNat (i % 251 + 1)) i ++ List.replicate (k - i) 0)) 5 ∧ Kept [] w wr) (fun x _ => k - (intOf x).toNat)
  case atStart => exact ⟨0, Nat.zero_le _, rfl, Own.new _ _ _, (Kept.refl _ _).alloc _⟩
  case round =>
    obtain ⟨i, hik, rfl, ho, hkp⟩ := hrel
    by_cases hlt : i < k
    · have c0 : ∃ v, wr.cell? ⟨w.heap.size, i, none⟩ = some v := ⟨_, ho.cell i (by rw [bcells_size]; simp [tabL_len]; omega)⟩
      obtain ⟨v, c0⟩ := c0
      have z0 := ho.free i
      obtain ⟨q, hq⟩ : ∃ q : Nat, i % 251 = q := ⟨_, rfl⟩
      have hq1 : (i : Int) % 251 = q := by omega
      have hq2 : q < 251 := by omega
      have hqx : (((q : Int) + 1) : Int) = (((fun i => UInt8.ofNat (i % 251 + 1)) i : UInt8).toNat : Int) := by
        show _ = ((UInt8.ofNat (i % 251 + 1)).toNat : Int)
        rw [hq, UInt8.toNat_ofNat', Nat.mod_eq_of_lt (by omega)]; rfl
      have HQX := Lib.hid hqx
      have HO := Lib.hid ho
      clear ho hqx
      go_wp2_with fail
      go_roundw
      case rel => exact ⟨i + 1, by omega, by go_num, tab_step HO.out hlt HQX.out, hkp.setCell (Or.inr (Nat.le_refl _)) _⟩
      case measure => simp [intOf]; omega
    · obtain rfl : i = k := by omega
      have hb := own_bytes ho
      have e : tabL (fun i => UInt8.ofNat (i % 251 + 1)) i ++ List.replicate (i - i) 0 = textV i := by rw [Nat.sub_self]; simp [textV]
      rw [e] at hb
      have hconv := Lib.run_convert_whole (P := Try.prog) wr 38 5 9 Try.underlying38 Try.underlying5 Try.underlying9 _ _ _ hb i
      rw [bs_size, show (textV i).length = i from tabL_len _ _] at hconv
      go_wp2_with fail
      go_ret
      exact ⟨rfl, hkp⟩
set_option maxRecDepth 100000 in
theorem vfill (n : Int) (c : UInt8) (w : World) (hn : (Lit.int .i64 n).wf = true) :
    Calls Try.prog 51 #[.int .i64 n, .int .u8 (c.toNat : Int)] w fun e w' => e = .returned (.string (bs (fillB (min (max n 0) 3000).toNat c))) ∧ Kept [] w w' := by
  obtain ⟨m, hm⟩ : ∃ m, max n 0 = m := ⟨_, rfl⟩
  obtain ⟨k, hk⟩ : ∃ k : Nat, min m 3000 = (k : Int) := ⟨(min m 3000).toNat, by omega⟩
  rw [hm, hk, Int.toNat_natCast]
  have hk3 : k ≤ 3000 := by omega
  have hmk := make_bytes k (by omega)
  clear hn
  go_enter Try.func51, Try.ntmps51
  go_wp2_with fail
  go_loopw [13] (fun x wr => ∃ i : Nat, i ≤ k ∧ x = .int .i64 i ∧ Own wr w.heap.size (bcells (tabL (fun _ => c) i ++ List.replicate (k - i) 0)) 5 ∧ Kept [] w wr) (fun x _ => k - (intOf x).toNat)
  case atStart => exact ⟨0, Nat.zero_le _, rfl, Own.new _ _ _, (Kept.refl _ _).alloc _⟩
  case round =>
    obtain ⟨i, hik, rfl, ho, hkp⟩ := hrel
    by_cases hlt : i < k
    · have c0 : ∃ v, wr.cell? ⟨w.heap.size, i, none⟩ = some v := ⟨_, ho.cell i (by rw [bcells_size]; simp [tabL_len]; omega)⟩
      obtain ⟨v, c0⟩ := c0
      have z0 := ho.free i
      have HO := Lib.hid ho
      have HL := Lib.hid hlt
      have i1 : (i : Int) < k := by omega
      clear ho hlt
      go_wp2_with fail
      go_roundw
      case rel => exact ⟨i + 1, HL.out, by go_num, tab_step (x := (c.toNat : Int)) HO.out HL.out rfl, hkp.setCell (Or.inr (Nat.le_refl _)) _⟩
      case measure => (have := HL.out; simp [intOf]; omega)
    · obtain rfl : i = k := by omega
      have hb := own_bytes ho
      have e : tabL (fun _ => c) i ++ List.replicate (i - i) 0 = fillB i c := by rw [Nat.sub_self]; simp [fillB]
      rw [e] at hb
      have hconv := Lib.run_convert_whole (P := Try.prog) wr 38 5 9 Try.underlying38 Try.underlying5 Try.underlying9 _ _ _ hb i
      rw [bs_size, show (fillB i c).length = i from tabL_len _ _] at hconv
      go_wp2_with fail
      go_ret
      exact ⟨rfl, hkp⟩

/-- a row of numbers stands. -/
def NumsAt (w : World) (v : Value) (al : List Nat) : Prop :=
  ∃ p c, v = .slice p al.length c ∧ al.length ≤ c ∧ c ≤ maxLen ∧ ∀ k (h : k < al.length), ∃ b off, p = some ⟨b, off, none⟩ ∧ w.cell? ⟨b, off + k, none⟩ = some (.int .i64 ((al[k] : Nat) : Int)) ∧ b < w.heap.size
theorem NumsAt.kept0 {w w' : World} {v : Value} {al : List Nat} (h : NumsAt w v al) (k : Kept [] w w') : NumsAt w' v al := by
  obtain ⟨p, c, h1, h2, h3, h4⟩ := h
  refine ⟨p, c, h1, h2, h3, fun j hj => ?_⟩
  obtain ⟨b, off, e1, e2, e3⟩ := h4 j hj
  exact ⟨b, off, e1, (k.cell (a := ⟨b, off + j, none⟩) e3 (by simp)).trans e2, Nat.lt_of_lt_of_le e3 k.size⟩
theorem NumsAt.take {w : World} {p : Option Addr} {n c : Nat} {al : List Nat} (h : NumsAt w (.slice p n c) al) (m : Nat) (hm : m ≤ al.length) : NumsAt w (.slice p m c) (al.take m) := by
  obtain ⟨p', c', h1, h2, h3, h4⟩ := h
  injection h1 with e1 e2 e3
  subst e1; subst e3
  have hl : (al.take m).length = m := by rw [List.length_take]; omega
  refine ⟨p, c, by rw [hl], by omega, h3, fun j hj => ?_⟩
  obtain ⟨b, off, e1, e2, e3⟩ := h4 j (by omega)
  exact ⟨b, off, e1, by rw [List.getElem_take]; exact e2, e3⟩
set_option maxRecDepth 100000 in
theorem vsame (va vb : Value) (l : List Nat) (w : World) (ha : NumsAt w va l) (hb : NumsAt w vb l) (hl : l.length ≤ 1000000) :
    Calls Try.prog 12 #[va, vb] w fun e w' => e = .returned (.bool true) ∧ Kept [] w w' := by
  obtain ⟨pa, ca, rfl, a1, a2, _⟩ := id ha
  obtain ⟨pb, cb, rfl, b1, b2, _⟩ := id hb
  have HA := Lib.hid ha
  have HB := Lib.hid hb
  have hl' : (l.length : Int) ≤ 1000000 := by omega
  clear ha hb hl
  go_enter Try.func12, Try.ntmps12
  go_wp2_with fail
  go_loopw [5] (fun i wr => ∃ k : Nat, k ≤ l.length ∧ i = .int .i64 k ∧ Kept [] w wr) (fun i _ => l.length - (intOf i).toNat)
  case atStart => exact ⟨0, by omega, rfl, Kept.refl _ _⟩
  case round =>
    obtain ⟨k, hk, rfl, hK⟩ := hrel
    by_cases hlt : k < l.length
    · obtain ⟨p, c, e, _, _, hA⟩ := HA.out.kept0 hK
      injection e with e _ e'
      subst e; subst e'
      obtain ⟨b, off, rfl, c0, hb⟩ := hA k hlt
      obtain ⟨p', c', e, _, _, hB⟩ := HB.out.kept0 hK
      injection e with e _ e'
      subst e; subst e'
      obtain ⟨b', off', rfl, c0', hb'⟩ := hB k hlt
      have i1 : (k : Int) < l.length := by omega
      have HLT := Lib.hid hlt
      generalize l[k] = X0 at *
      clear hA hB
      go_wp2_with fail
      go_quiet (fail)
      go_wp2_with fail
      go_roundw
      case rel => exact ⟨k + 1, HLT.out, by go_num, hK.drewN _⟩
      case measure => (have hh := HLT.out; simp [intOf]; omega)
    · obtain rfl : k = l.length := by omega
      go_wp2_with fail
      go_ret
      exact ⟨rfl, hK⟩
end Go.Proofs.Ytdnbddhjdokbfaa
