/- Layer 10 (extent): whether a list may be: the program's May. -/
import Derived.Test.YtdnbddhjdokbfaaG25
import Derived.Test.YtdnbddhjdokbfaaG27
import Derived.BigQuiet
import Derived.Deep.RegionWith
import Derived.BigRegion
namespace Go.Proofs.Ytdnbddhjdokbfaa
open Go.RowKit
set_option linter.unusedVariables false
set_option linter.unusedSimpArgs false

set_option maxRecDepth 100000 in
theorem pcloneR (v : Value) (l : List (Int × Int)) (lo hi : Nat) (w : World) (h : RunsIn w v l lo hi) (hl : l.length ≤ 1000000) :
    Calls Try.prog 59 #[v] w (GivesR l w) := by
  obtain ⟨i0, hi0, hz0, hz1, hz2⟩ := infoRun
  have q22 : ∀ (w : World) (a : Option Addr) (n c n' c' : Nat), (binOp .eql 22 (.slice a n c) (.slice none n' c')).run Try.prog w = .ok (.bool a.isNone) w := fun w a n c n' c' => Lib.run_eql_slice_nil w _ _ a n c n' c' Try.underlying22
  obtain ⟨p, c, rfl⟩ := h.shape
  unfold GivesR
  cases p with
  | none =>
    have hl0 : l = [] := by
      rcases h with ⟨h, _⟩ | ⟨b, off, c', e, _⟩
      · exact h
      · simp at e
    subst hl0
    go_enter Try.func59, Try.ntmps59
    go_wp2_with fail
    go_ret
    exact ⟨_, rfl, World.ownsRow_nil _ _ _ _, Kept.refl _ _⟩
  | some ad =>
    have hcell : ∀ j u, (rcells l)[j]? = some u → w.cell? (ad.add j) = some u := by
      rcases h with ⟨rfl, _⟩ | ⟨b, off, c', e, h2⟩
      · intro j u hj; simp [rcells] at hj
      · simp at e
        obtain ⟨rfl, rfl⟩ := e
        have hh : RunsIn w (.slice (some ⟨b, off, none⟩) l.length c) l lo hi := Or.inr ⟨b, off, c, rfl, h2⟩
        intro j u hj
        rw [Go.WideShapes.add_plain]
        exact hh.cells j u hj
    have A := Lib.hid hcell
    clear hcell h
    have hr1 := rcells_len l
    have hr2 := rcells_one l
    have HR1 := Lib.hid hr1
    have HR2 := Lib.hid hr2
    clear hr1 hr2
    go_enter Try.func59, Try.ntmps59
    go_wp2_with (at_builtin; refine wpList_append_own _ rfl _ _ 22 rfl w.heap.size 66 i0 _ 2 16 Try.underlying22 hi0 hz0 hz1 hz2 rfl (by decide) _ _ _ rfl (World.ownsRow_made w #[] 0 (Nat.le_refl _) (Nat.zero_le _) (by simp)) ad l.length c (rcells l) rfl ?qc1 ?qc2 ?qc3 ?qc4 ?qc5 ?qc6 ?_)
    case qc1 => exact HR1.out
    case qc2 => intro j u hj; exact Lib.cell?_alloc_some _ (A.out j u hj)
    case qc3 => exact HR2.out
    case qc4 => unfold maxLen; omega
    case qc5 => omega
    case qc6 => simp
    intro v' w1 hown hgrow hnil
    have hro : w1.ownsRow w.heap.size 66 2 v' l.length (rcells l) := by simpa using hown
    have HRO := Lib.hid hro
    have hk1 : Kept [] w w1 := ((Kept.refl _ _).alloc _).grown hgrow (fun k hk => Or.inr (by simp [Value.ownBlock] at hk; omega))
    clear hown hgrow hnil hro
    go_wp2_with fail
    go_ret
    exact ⟨_, rfl, HRO.out, hk1⟩
theorem mayX_rising {f z : Int} {t : List (Int × Int)} (hr : Rising t) (hok : ∀ j (hj : j < t.length), OkX f z t[j]) (hch : ∀ j (hj : j + 1 < t.length), t[j].1 + t[j].2 ≤ t[j + 1].1) : MayX f z t := by
  refine ⟨fun a ha => ?_, ?_⟩
  · obtain ⟨j, hj, rfl⟩ := List.mem_iff_getElem.1 ha
    exact hok j hj
  · rw [List.pairwise_iff_getElem]
    intro i j hi hj hij
    refine Or.inl ?_
    have h1 := hch i (by omega)
    by_cases e : j = i + 1
    · subst e; exact h1
    · have h2 := List.pairwise_iff_getElem.1 hr (i + 1) j (by omega) hj (by omega)
      omega
theorem mayX_clash {f z : Int} {t : List (Int × Int)} {n : Nat} (hr : Rising t) (hn : n + 1 < t.length) (h1 : 1 ≤ t[n + 1].2) (h : t[n + 1].1 < t[n].1 + t[n].2) : ¬ MayX f z t := fun hm => by
  have h2 := List.pairwise_iff_getElem.1 hm.2 n (n + 1) (by omega) hn (by omega)
  have h3 := List.pairwise_iff_getElem.1 hr n (n + 1) (by omega) hn (by omega)
  rcases h2 with h2 | h2 <;> omega
/-- the first so many of a sorted list may be. -/
def OkTo (f z : Int) (t : List (Int × Int)) (k : Nat) : Prop := (∀ j (hj : j < t.length), j < k → OkX f z t[j]) ∧ ∀ j (hj : j + 1 < t.length), j + 1 < k → t[j].1 + t[j].2 ≤ t[j + 1].1
theorem okTo_zero (f z : Int) (t : List (Int × Int)) : OkTo f z t 0 := ⟨fun j _ h => by omega, fun j _ h => by omega⟩
theorem okTo_one {f z : Int} {t : List (Int × Int)} (h0 : 0 < t.length) (h : OkX f z t[0]) : OkTo f z t 1 := ⟨fun j _ hj => by
  obtain rfl : j = 0 := by omega
  exact h, fun j _ h => by omega⟩
theorem okTo_succ {f z : Int} {t : List (Int × Int)} {n : Nat} (hn : n + 1 < t.length) (h : OkTo f z t (n + 1)) (h1 : OkX f z t[n + 1]) (h2 : t[n].1 + t[n].2 ≤ t[n + 1].1) : OkTo f z t (n + 1 + 1) := by
  refine ⟨fun j hj hjk => ?_, fun j hj hjk => ?_⟩
  · by_cases e : j = n + 1
    · subst e; exact h1
    · exact h.1 j hj (by omega)
  · by_cases e : j = n
    · subst e; exact h2
    · exact h.2 j hj (by omega)
set_option maxRecDepth 100000 in
set_option maxHeartbeats 4000000 in
theorem xmay (v : Value) (l : List (Int × Int)) (f z : Int) (lo hi : Nat) (w : World) (h : RunsIn w v l lo hi) (hl : l.length ≤ 1000000) (hwf : ∀ a ∈ l, WfRun a) (f1 : -9223372036854775808 ≤ f) (f2 : f ≤ 9223372036854775807) (s1 : -9223372036854775808 ≤ z) (s2 : z ≤ 9223372036854775807) :
    Calls Try.prog 31 #[v, .int .i64 f, .int .i64 z] w (MayXSays f z l w) := by
  have hc := pcloneR v l lo hi w h hl
  unfold GivesR at hc
  obtain ⟨p, c, rfl⟩ := h.shape
  have HC := Lib.hid hc
  have HWF := Lib.hid hwf
  have hso := fun v1 w1 (r1 : w1.ownsRow w.heap.size 66 2 v1 l.length (rcells l)) => xsort2 w.heap.size v1 l w1 r1 hl
  unfold SortSays at hso
  have HSO := Lib.hid hso
  clear h hc hwf hso
  generalize hN : l.length = N at *
  have HN := Lib.hid hN
  clear hN
  go_enter Try.func31, Try.ntmps31
  go_wp2_with fail
  refine HC.out.mono ?_; rintro e w1 ⟨v1, rfl, r1, k1⟩
  have hso := HSO.out _ _ r1
  have HSO := Lib.hid hso
  obtain ⟨p1, c1, rfl⟩ := own_shape r1
  clear hso r1
  go_wp2_with fail
  refine HSO.out.mono ?_; rintro e w3 ⟨rfl, t, hperm, hris, hs3, k3⟩
  have K3 : Kept [] w w3 := by
    rcases hs3.2 with ⟨e1, _⟩ | ⟨g, cap, cur, e1, hb, _⟩
    · exact k1.call (k3 [] (fun g hg => by rw [e1] at hg; simp [Value.ownBlock] at hg)) (fun x hx => by cases hx)
    · refine k1.call (k3 [g] (fun g' hg => ?_)) (fun x hx => Or.inr ?_)
      · rw [e1] at hg
        have : g = g' := by simpa [Value.ownBlock] using hg
        simp [this]
      · have hx : x = g := by simpa using hx
        omega
  have hsl : N = t.length := by rw [← HN.out]; exact hperm.length_eq.symm
  clear HN
  subst hsl
  have hS := RunsIn.of_own hs3
  have hmp : MayX f z t ↔ MayX f z l := mayX_perm hperm
  have hwt : ∀ a ∈ t, WfRun a := fun a ha => HWF.out a (hperm.mem_iff.1 ha)
  have HS := Lib.hid hS
  have HMP := Lib.hid hmp
  have HWT := Lib.hid hwt
  have HRIS := Lib.hid hris
  clear hS hmp hwt hris hs3 k3 HSO HWF hperm HC
  have j1 : (t.length : Int) ≤ 1000000 := by omega
  have hw3 := K3.size
  go_wp2_with fail
  go_loopw [16] (fun i wr => ∃ k : Nat, k ≤ t.length ∧ i = .int .i64 k ∧ OkTo f z t k ∧ Kept [] w3 wr) (fun i _ => t.length - (intOf i).toNat)
  case atStart => exact ⟨0, by omega, rfl, okTo_zero _ _ _, Kept.refl _ _⟩
  case round =>
    obtain ⟨k, hk, rfl, hO, hK⟩ := hrel
    by_cases hlt : k < t.length
    · obtain ⟨b, off, rfl, c0, c1, hb, hlc, hcm⟩ := (HS.out.kept0 hK).at_ k hlt
      have hwk := HWT.out t[k] (List.getElem_mem hlt)
      have hno : ¬ OkX f z t[k] → ¬ MayX f z l := fun hh hm => hh ((HMP.out.2 hm).1 _ (List.getElem_mem hlt))
      have i1 : (k : Int) < t.length := by omega
      have HNO := Lib.hid hno
      have HLT := Lib.hid hlt
      have HO := Lib.hid hO
      have hkall : ∀ wx, Kept [] wr wx → Kept [] w wx := fun wx hx => (K3.trans hK).trans hx
      have HKA := Lib.hid hkall
      clear hno hO hkall
      rcases Nat.eq_zero_or_pos k with rfl | hpos
      · have hone := fun hh => okTo_one (f := f) (z := z) hlt hh
        have HONE := Lib.hid hone
        clear hone
        generalize t[0] = X at *
        obtain ⟨x0, xn⟩ := X
        obtain ⟨w1', w2', w3', w4'⟩ := hwk
        unfold OkX at HNO HONE
        simp only [Nat.zero_mul, Nat.add_zero] at c0 c1
        simp only at c0 c1 w1' w2' w3' w4' HNO HONE
        rcases (by omega : x0 < f ∨ (f ≤ x0 ∧ xn < 1) ∨ (f ≤ x0 ∧ 1 ≤ xn ∧ z ≤ x0) ∨ (f ≤ x0 ∧ 1 ≤ xn ∧ x0 < z ∧ 0 ≤ x0 ∧ z - x0 < xn) ∨ (f ≤ x0 ∧ 1 ≤ xn ∧ x0 < z ∧ x0 < 0 ∧ z < x0 + xn) ∨ ((f ≤ x0 ∧ 1 ≤ xn ∧ x0 < z ∧ 0 ≤ x0 ∧ xn ≤ z - x0) ∨ (f ≤ x0 ∧ 1 ≤ xn ∧ x0 < z ∧ x0 < 0 ∧ x0 + xn ≤ z))) with g1 | ⟨g1, g2⟩ | ⟨g1, g2, g3⟩ | ⟨g1, g2, g3, g4, g5⟩ | ⟨g1, g2, g3, g4, g5⟩ | ⟨g1, g2, g3, g4, g5⟩ | ⟨g1, g2, g3, g4, g5⟩
        iterate 5
          · have hnn := HNO.out (by omega)
            have HNN := Lib.hid hnn
            clear hnn
            go_wp2_with fail
            go_ret
            exact mayXSays_no HNN.out (HKA.out _ ((Kept.refl _ _).alloc _))
        all_goals
          have hok := HONE.out (by omega)
          have HOK := Lib.hid hok
          clear hok
          go_wp2_with fail
          go_quiet (fail)
          go_wp2_with fail
          go_roundw
          case rel => exact ⟨0 + 1, HLT.out, by go_num, HOK.out, (hK.alloc _).drewN _⟩
          case measure => (have hh := HLT.out; simp [intOf]; omega)
      · obtain ⟨n, rfl⟩ : ∃ n, k = n + 1 := ⟨k - 1, by omega⟩
        obtain ⟨b', off', e', d0, d1, _⟩ := (HS.out.kept0 hK).at_ n (by omega)
        injection e' with e'
        injection e' with e1 e2 _
        subst e1 e2
        have hnl : n < t.length := by omega
        have hprev := HO.out.1 n hnl (by omega)
        have hsu := fun h1 h2 => okTo_succ hlt HO.out h1 h2
        have hcl : 1 ≤ t[n + 1].2 → t[n + 1].1 < t[n].1 + t[n].2 → ¬ MayX f z l := fun h1 h2 hm => mayX_clash HRIS.out hlt h1 h2 (HMP.out.2 hm)
        have HSU := Lib.hid hsu
        have HCL := Lib.hid hcl
        clear hsu hcl HO hpos
        generalize t[n + 1] = X at *
        generalize t[n] = Y at *
        obtain ⟨x0, xn⟩ := X
        obtain ⟨y0, yn⟩ := Y
        obtain ⟨w1', w2', w3', w4'⟩ := hwk
        obtain ⟨q1, q2, q3, q4⟩ := hprev
        unfold OkX at HNO HSU
        simp only at c0 c1 w1' w2' w3' w4' HNO HSU d0 d1 q1 q2 q3 q4 HCL
        have i2 : (n : Int) + 1 < t.length := by omega
        have i3 : (n : Int) < t.length := by omega
        rcases (by omega : x0 < f ∨ (f ≤ x0 ∧ xn < 1) ∨ (f ≤ x0 ∧ 1 ≤ xn ∧ z ≤ x0) ∨ (f ≤ x0 ∧ 1 ≤ xn ∧ x0 < z ∧ 0 ≤ x0 ∧ z - x0 < xn) ∨ (f ≤ x0 ∧ 1 ≤ xn ∧ x0 < z ∧ x0 < 0 ∧ z < x0 + xn) ∨ ((f ≤ x0 ∧ 1 ≤ xn ∧ x0 < z ∧ 0 ≤ x0 ∧ xn ≤ z - x0) ∨ (f ≤ x0 ∧ 1 ≤ xn ∧ x0 < z ∧ x0 < 0 ∧ x0 + xn ≤ z))) with g1 | ⟨g1, g2⟩ | ⟨g1, g2, g3⟩ | ⟨g1, g2, g3, g4, g5⟩ | ⟨g1, g2, g3, g4, g5⟩ | ⟨g1, g2, g3, g4, g5⟩ | ⟨g1, g2, g3, g4, g5⟩
        iterate 5
          · have hnn := HNO.out (by omega)
            have HNN := Lib.hid hnn
            clear hnn
            go_wp2_with fail
            go_ret
            exact mayXSays_no HNN.out (HKA.out _ ((Kept.refl _ _).alloc _))
        all_goals
          by_cases hap : y0 + yn ≤ x0
          · have hok := HSU.out (by omega) hap
            have HOK := Lib.hid hok
            clear hok
            go_wp2_with fail
            go_quiet (fail)
            go_wp2_with fail
            go_roundw
            case rel => exact ⟨n + 1 + 1, HLT.out, by go_num, HOK.out, (hK.alloc _).drewN _⟩
            case measure => (have hh := HLT.out; simp [intOf]; omega)
          · have hnn := HCL.out g2 (by omega)
            have HNN := Lib.hid hnn
            clear hnn
            go_wp2_with fail
            go_quiet (fail)
            go_wp2_with fail
            go_ret
            exact mayXSays_no HNN.out (HKA.out _ (((Kept.refl _ _).alloc _).drewN _))
    · obtain rfl : k = t.length := by omega
      have hM : MayX f z l := HMP.out.1 (mayX_rising HRIS.out (fun j hj => hO.1 j hj hj) (fun j hj => hO.2 j hj hj))
      have HM := Lib.hid hM
      clear hM hO
      go_wp2_with fail
      go_ret
      exact mayXSays_yes HM.out (K3.trans hK)
end Go.Proofs.Ytdnbddhjdokbfaa

/- Walks of layer 11 (super): which superblocks may be. -/
namespace Go.Proofs.Ytdnbddhjdokbfaa
open Go.RowKit
set_option linter.unusedVariables false
set_option linter.unusedSimpArgs false

/-- a superblock. -/
structure SB where
  seq : Nat
  sectors : Int
  journal : Int
  used : Int
  size : Int
  runs : List (Int × Int)
/-- its cells, where v is its slice of runs. -/
def SB.cells (s : SB) (v : Value) : Array Value := #[.int .u64 s.seq, .int .i64 s.sectors, .int .i64 s.journal, .int .i64 s.used, .int .i64 s.size, v]
/-- are its numbers such as may be? -/
def SB.numOk (s : SB) : Prop := 1 ≤ s.seq ∧ 4 ≤ s.sectors ∧ s.sectors ≤ 8192 ∧ 1 ≤ s.journal ∧ s.journal ≤ s.sectors - 2 ∧ 0 ≤ s.used ∧ s.used ≤ s.journal * 128 ∧ 0 ≤ s.size ∧ s.size ≤ 1048576 ∧ s.runs.length ≤ 16
/-- may it be? -/
def SB.may (s : SB) : Prop := s.numOk ∧ lies (2 + s.journal) s.sectors s.runs = true ∧ sumLen s.runs = need s.size
def SB.fits (s : SB) : Prop := s.seq < 18446744073709551616 ∧ (Lit.int .i64 s.sectors).wf = true ∧ (Lit.int .i64 s.journal).wf = true ∧ (Lit.int .i64 s.used).wf = true ∧ (Lit.int .i64 s.size).wf = true
theorem SB.num_cases (s : SB) : (¬ s.numOk ∧ ((s.seq < 1) ∨ (1 ≤ s.seq ∧ s.sectors < 4) ∨ (1 ≤ s.seq ∧ 4 ≤ s.sectors ∧ 8192 < s.sectors) ∨
    ((1 ≤ s.seq ∧ 4 ≤ s.sectors ∧ s.sectors ≤ 8192) ∧ ((s.journal < 1) ∨ (1 ≤ s.journal ∧ s.sectors - 2 < s.journal) ∨
    ((1 ≤ s.journal ∧ s.journal ≤ s.sectors - 2) ∧ ((s.used < 0) ∨ (0 ≤ s.used ∧ s.journal * 128 < s.used) ∨
    ((0 ≤ s.used ∧ s.used ≤ s.journal * 128) ∧ ((s.size < 0) ∨ (0 ≤ s.size ∧ 1048576 < s.size) ∨ (0 ≤ s.size ∧ s.size ≤ 1048576 ∧ 16 < s.runs.length))))))))) ∨
    (s.numOk ∧ 1 ≤ s.seq ∧ 4 ≤ s.sectors ∧ s.sectors ≤ 8192 ∧ 1 ≤ s.journal ∧ s.journal ≤ s.sectors - 2 ∧ 0 ≤ s.used ∧ s.used ≤ s.journal * 128 ∧ 0 ≤ s.size ∧ s.size ≤ 1048576 ∧ s.runs.length ≤ 16) := by
  by_cases h : s.numOk
  · exact Or.inr ⟨h, h⟩
  · refine Or.inl ⟨h, ?_⟩
    unfold SB.numOk at h
    omega
theorem need_bd {n : Int} (h0 : 0 ≤ n) (h : n ≤ 1048576) : 0 ≤ need n ∧ need n ≤ 8192 := by
  unfold need; split <;> omega

/-- what Check says of a superblock. -/
def CheckSays (s : SB) (w : World) (e : Ending) (w' : World) : Prop := ((s.may ∧ e = .returned (.int .i64 0)) ∨ (¬ s.may ∧ e = .returned (.int .i64 1))) ∧ Kept [] w w'

end Go.Proofs.Ytdnbddhjdokbfaa

/- Walks of the reference of layer 11 (super): which runs, which superblocks may be. -/
namespace Go.Proofs.Ytdnbddhjdokbfaa
open Go.RowKit
set_option linter.unusedVariables false
set_option linter.unusedSimpArgs false

def RunsSays (f s : Int) (l : List (Int × Int)) (w : World) (e : Ending) (w' : World) : Prop := e = .returned (.bool (lies f s l && decide (l.length ≤ 16))) ∧ Kept [] w w'
theorem runsSays_no {f s : Int} {l : List (Int × Int)} {w w' : World} (h : lies f s l = false) (hk : Kept [] w w') : RunsSays f s l w (.returned (.bool false)) w' := by
  refine ⟨?_, hk⟩; rw [h]; rfl
theorem runsSays_yes {f s : Int} {l : List (Int × Int)} {w w' : World} (h : lies f s l = true) (hk : Kept [] w w') : RunsSays f s l w (.returned (.bool (decide ((l.length : Int) ≤ 16)))) w' := by
  refine ⟨?_, hk⟩
  rw [h, Bool.true_and]
  have : decide ((l.length : Int) ≤ 16) = decide (l.length ≤ 16) := by rw [decide_eq_decide]; omega
  rw [this]

set_option maxRecDepth 100000 in
theorem rneed (n : Int) (w : World) (hn : (Lit.int .i64 n).wf = true) :
    Calls Try.prog 35 #[.int .i64 n] w fun e w' => e = .returned (.int .i64 (need n)) ∧ w = w' := by
  have hb := bd64 hn
  unfold need
  by_cases h : n < 1
  · rw [if_pos h]
    go_enter Try.func35, Try.ntmps35
    go_wp2_with fail
    go_ret
    exact ⟨rfl, rfl⟩
  · rw [if_neg h]
    go_enter Try.func35, Try.ntmps35
    go_wp2_with fail
    go_ret
    exact ⟨rfl, rfl⟩

end Go.Proofs.Ytdnbddhjdokbfaa
