/- -/
import Derived.Test.YtdkimcnlhmhpgaaGreatH09
import Derived.Test.YtdkimcnlhmhpgaaGreatH10
import Derived.BigQuiet
import Derived.Deep.RegionWith
import Derived.BigRegion
set_option linter.unusedVariables false
set_option linter.unusedSimpArgs false
namespace Go.Proofs.YtdkimcnlhmhpgaaGreat
open Go.RowKit
set_option maxRecDepth 100000 in
theorem pcloneR (v : Value) (l : List (Int × Int)) (lo hi : Nat) (w : World) (h : RunsIn w v l lo hi) (hl : l.length ≤ 1000000) :
  Calls Tryz.prog 69 #[v] w (GivesR l w) := by
 obtain ⟨i0, hi0, hz0, hz1, hz2⟩ := infoRun
 have q22 : ∀ (w : World) (a : Option Addr) (n c n' c' : Nat), (binOp .eql 56 (.slice a n c) (.slice none n' c')).run Tryz.prog w = .ok (.bool a.isNone) w := fun w a n c n' c' => Lib.run_eql_slice_nil w _ _ a n c n' c' Tryz.underlying56
 obtain ⟨p, c, rfl⟩ := h.shape
 unfold GivesR
 cases p with
 | none =>
  have hl0 : l = [] := by
   rcases h with ⟨h, _⟩ | ⟨b, off, c', e, _⟩
   ·exact h
   ·simp at e
  subst hl0
  go_enter Tryz.func69, Tryz.ntmps69
  go_wp2_with fail
  go_ret
  exact ⟨_, rfl, World.ownsRow_nil _ _ _ _, Kept.refl _ _⟩
 | some ad =>
  have hcell : ∀ j u, (rcells l)[j]? = some u → w.cell? (ad.add j) = some u := by
   rcases h with ⟨rfl, _⟩ | ⟨b, off, c', e, h2⟩
   ·intro j u hj; simp [rcells] at hj
   ·simp at e
    obtain ⟨rfl, rfl⟩ := e
    have hh : RunsIn w (.slice (some ⟨b, off, none⟩) l.length c) l lo hi := Or.inr ⟨b, off, c, rfl, h2⟩
    intro j u hj
    rw [Go.WideShapes.add_plain]
    exact hh.cells j u hj
  have A := Lib.hid hcell
  clear hcell h
  have hr1 := rcells_len l
  have hr2 := rcells_one l
  have HR1 := Lib.hid hr1
  have HR2 := Lib.hid hr2
  clear hr1 hr2
  go_enter Tryz.func69, Tryz.ntmps69
  go_wp2_with (at_builtin; refine wpList_append_own _ rfl _ _ 56 rfl w.heap.size 128 i0 _ 2 16 Tryz.underlying56 hi0 hz0 hz1 hz2 rfl (by decide) _ _ _ rfl (World.ownsRow_made w #[] 0 (Nat.le_refl _) (Nat.zero_le _) (by simp)) ad l.length c (rcells l) rfl ?qc1 ?qc2 ?qc3 ?qc4 ?qc5 ?qc6 ?_)
  case qc1 => exact HR1.out
  case qc2 => intro j u hj; exact Lib.cell?_alloc_some _ (A.out j u hj)
  case qc3 => exact HR2.out
  case qc4 => unfold maxLen; omega
  case qc5 => omega
  case qc6 => simp
  intro v' w1 hown hgrow hnil
  have hro : w1.ownsRow w.heap.size 128 2 v' l.length (rcells l) := by simpa using hown
  have HRO := Lib.hid hro
  have hk1 : Kept [] w w1 := ((Kept.refl _ _).alloc _).grown hgrow (fun k hk => Or.inr (by simp [Value.ownBlock] at hk; omega))
  clear hown hgrow hnil hro
  go_wp2_with fail
  go_ret
  exact ⟨_, rfl, HRO.out, hk1⟩
theorem mayX_rising {f z : Int} {t : List (Int × Int)} (hr : Rising t) (hok : ∀ j (hj : j < t.length), OkX f z t[j]) (hch : ∀ j (hj : j + 1 < t.length), t[j].1 + t[j].2 ≤ t[j + 1].1) : MayX f z t := by
 refine ⟨fun a ha => ?_, ?_⟩
 ·obtain ⟨j, hj, rfl⟩ := List.mem_iff_getElem.1 ha
  exact hok j hj
 ·rw [List.pairwise_iff_getElem]
  intro i j hi hj hij
  refine Or.inl ?_
  have h1 := hch i (by omega)
  by_cases e : j = i + 1
  ·subst e; exact h1
  ·have h2 := List.pairwise_iff_getElem.1 hr (i + 1) j (by omega) hj (by omega)
   omega
theorem mayX_clash {f z : Int} {t : List (Int × Int)} {n : Nat} (hr : Rising t) (hn : n + 1 < t.length) (h1 : 1 ≤ t[n + 1].2) (h : t[n + 1].1 < t[n].1 + t[n].2) : ¬ MayX f z t := fun hm => by
 have h2 := List.pairwise_iff_getElem.1 hm.2 n (n + 1) (by omega) hn (by omega)
 have h3 := List.pairwise_iff_getElem.1 hr n (n + 1) (by omega) hn (by omega)
 rcases h2 with h2 | h2 <;> omega
def OkTo (f z : Int) (t : List (Int × Int)) (k : Nat) : Prop := (∀ j (hj : j < t.length), j < k → OkX f z t[j]) ∧ ∀ j (hj : j + 1 < t.length), j + 1 < k → t[j].1 + t[j].2 ≤ t[j + 1].1
theorem okTo_zero (f z : Int) (t : List (Int × Int)) : OkTo f z t 0 := ⟨fun j _ h => by omega, fun j _ h => by omega⟩
theorem okTo_one {f z : Int} {t : List (Int × Int)} (h0 : 0 < t.length) (h : OkX f z t[0]) : OkTo f z t 1 := ⟨fun j _ hj => by
 obtain rfl : j = 0 := by omega
 exact h, fun j _ h => by omega⟩
theorem okTo_succ {f z : Int} {t : List (Int × Int)} {n : Nat} (hn : n + 1 < t.length) (h : OkTo f z t (n + 1)) (h1 : OkX f z t[n + 1]) (h2 : t[n].1 + t[n].2 ≤ t[n + 1].1) : OkTo f z t (n + 1 + 1) := by
 refine ⟨fun j hj hjk => ?_, fun j hj hjk => ?_⟩
 ·by_cases e : j = n + 1
  ·subst e; exact h1
  ·exact h.1 j hj (by omega)
 ·by_cases e : j = n
  ·subst e; exact h2
  ·exact h.2 j hj (by omega)
set_option maxRecDepth 100000 in
set_option maxHeartbeats 4000000 in
theorem xmay (v : Value) (l : List (Int × Int)) (f z : Int) (lo hi : Nat) (w : World) (h : RunsIn w v l lo hi) (hl : l.length ≤ 1000000) (hwf : ∀ a ∈ l, WfRun a) (f1 : -9223372036854775808 ≤ f) (f2 : f ≤ 9223372036854775807) (s1 : -9223372036854775808 ≤ z) (s2 : z ≤ 9223372036854775807) :
  Calls Tryz.prog 178 #[v, .int .i64 f, .int .i64 z] w (MayXSays f z l w) := by
 have hc := pcloneR v l lo hi w h hl
 unfold GivesR at hc
 obtain ⟨p, c, rfl⟩ := h.shape
 have HC := Lib.hid hc
 have HWF := Lib.hid hwf
 have hso := fun v1 w1 (r1 : w1.ownsRow w.heap.size 128 2 v1 l.length (rcells l)) => xsort2 w.heap.size v1 l w1 r1 hl
 unfold SortSays at hso
 have HSO := Lib.hid hso
 clear h hc hwf hso
 generalize hN : l.length = N at *
 have HN := Lib.hid hN
 clear hN
 go_enter Tryz.func178, Tryz.ntmps178
 go_wp2_with fail
 refine HC.out.mono ?_; rintro e w1 ⟨v1, rfl, r1, k1⟩
 have hso := HSO.out _ _ r1
 have HSO := Lib.hid hso
 obtain ⟨p1, c1, rfl⟩ := own_shape r1
 clear hso r1
 go_wp2_with fail
 refine HSO.out.mono ?_; rintro e w3 ⟨rfl, t, hperm, hris, hs3, k3⟩
 have K3 : Kept [] w w3 := by
  rcases hs3.2 with ⟨e1, _⟩ | ⟨g, cap, cur, e1, hb, _⟩
  ·exact k1.call (k3 [] (fun g hg => by rw [e1] at hg; simp [Value.ownBlock] at hg)) (fun x hx => by cases hx)
  ·refine k1.call (k3 [g] (fun g' hg => ?_)) (fun x hx => Or.inr ?_)
   ·rw [e1] at hg
    have : g = g' := by simpa [Value.ownBlock] using hg
    simp [this]
   ·have hx : x = g := by simpa using hx
    omega
 have hsl : N = t.length := by rw [← HN.out]; exact hperm.length_eq.symm
 clear HN
 subst hsl
 have hS := RunsIn.of_own hs3
 have hmp : MayX f z t ↔ MayX f z l := mayX_perm hperm
 have hwt : ∀ a ∈ t, WfRun a := fun a ha => HWF.out a (hperm.mem_iff.1 ha)
 have HS := Lib.hid hS
 have HMP := Lib.hid hmp
 have HWT := Lib.hid hwt
 have HRIS := Lib.hid hris
 clear hS hmp hwt hris hs3 k3 HSO HWF hperm HC
 have j1 : (t.length : Int) ≤ 1000000 := by omega
 have hw3 := K3.size
 go_wp2_with fail
 go_loopw [16] (fun i wr => ∃ k : Nat, k ≤ t.length ∧ i = .int .i64 k ∧ OkTo f z t k ∧ Kept [] w3 wr) (fun i _ => t.length - (intOf i).toNat)
 case atStart => exact ⟨0, by omega, rfl, okTo_zero _ _ _, Kept.refl _ _⟩
 case round =>
  obtain ⟨k, hk, rfl, hO, hK⟩ := hrel
  by_cases hlt : k < t.length
  ·obtain ⟨b, off, rfl, c0, c1, hb, hlc, hcm⟩ := (HS.out.kept0 hK).at_ k hlt
   have hwk := HWT.out t[k] (List.getElem_mem hlt)
   have hno : ¬ OkX f z t[k] → ¬ MayX f z l := fun hh hm => hh ((HMP.out.2 hm).1 _ (List.getElem_mem hlt))
   have i1 : (k : Int) < t.length := by omega
   have HNO := Lib.hid hno
   have HLT := Lib.hid hlt
   have HO := Lib.hid hO
   have hkall : ∀ wx, Kept [] wr wx → Kept [] w wx := fun wx hx => (K3.trans hK).trans hx
   have HKA := Lib.hid hkall
   clear hno hO hkall
   rcases Nat.eq_zero_or_pos k with rfl | hpos
   ·have hone := fun hh => okTo_one (f := f) (z := z) hlt hh
    have HONE := Lib.hid hone
    clear hone
    generalize t[0] = X at *
    obtain ⟨x0, xn⟩ := X
    obtain ⟨w1', w2', w3', w4'⟩ := hwk
    unfold OkX at HNO HONE
    simp only [Nat.zero_mul, Nat.add_zero] at c0 c1
    simp only at c0 c1 w1' w2' w3' w4' HNO HONE
    rcases (by omega : x0 < f ∨ (f ≤ x0 ∧ xn < 1) ∨ (f ≤ x0 ∧ 1 ≤ xn ∧ z ≤ x0) ∨ (f ≤ x0 ∧ 1 ≤ xn ∧ x0 < z ∧ 0 ≤ x0 ∧ z - x0 < xn) ∨ (f ≤ x0 ∧ 1 ≤ xn ∧ x0 < z ∧ x0 < 0 ∧ z < x0 + xn) ∨ ((f ≤ x0 ∧ 1 ≤ xn ∧ x0 < z ∧ 0 ≤ x0 ∧ xn ≤ z - x0) ∨ (f ≤ x0 ∧ 1 ≤ xn ∧ x0 < z ∧ x0 < 0 ∧ x0 + xn ≤ z))) with g1 | ⟨g1, g2⟩ | ⟨g1, g2, g3⟩ | ⟨g1, g2, g3, g4, g5⟩ | ⟨g1, g2, g3, g4, g5⟩ | ⟨g1, g2, g3, g4, g5⟩ | ⟨g1, g2, g3, g4, g5⟩
    iterate 5
     ·have hnn := HNO.out (by omega)
      have HNN := Lib.hid hnn
      clear hnn
      go_wp2_with fail
      go_ret
      exact mayXSays_no HNN.out (HKA.out _ ((Kept.refl _ _).alloc _))
    all_goals
     have hok := HONE.out (by omega)
     have HOK := Lib.hid hok
     clear hok
     go_wp2_with fail
     go_quiet (fail)
     go_wp2_with fail
     go_roundw
     case rel => exact ⟨0 + 1, HLT.out, by go_num, HOK.out, (hK.alloc _).drewN _⟩
     case measure => (have hh := HLT.out; simp [intOf]; omega)
   ·obtain ⟨n, rfl⟩ : ∃ n, k = n + 1 := ⟨k - 1, by omega⟩
    obtain ⟨b', off', e', d0, d1, _⟩ := (HS.out.kept0 hK).at_ n (by omega)
    injection e' with e'
    injection e' with e1 e2 _
    subst e1 e2
    have hnl : n < t.length := by omega
    have hprev := HO.out.1 n hnl (by omega)
    have hsu := fun h1 h2 => okTo_succ hlt HO.out h1 h2
    have hcl : 1 ≤ t[n + 1].2 → t[n + 1].1 < t[n].1 + t[n].2 → ¬ MayX f z l := fun h1 h2 hm => mayX_clash HRIS.out hlt h1 h2 (HMP.out.2 hm)
    have HSU := Lib.hid hsu
    have HCL := Lib.hid hcl
    clear hsu hcl HO hpos
    generalize t[n + 1] = X at *
    generalize t[n] = Y at *
    obtain ⟨x0, xn⟩ := X
    obtain ⟨y0, yn⟩ := Y
    obtain ⟨w1', w2', w3', w4'⟩ := hwk
    obtain ⟨q1, q2, q3, q4⟩ := hprev
    unfold OkX at HNO HSU
    simp only at c0 c1 w1' w2' w3' w4' HNO HSU d0 d1 q1 q2 q3 q4 HCL
    have i2 : (n : Int) + 1 < t.length := by omega
    have i3 : (n : Int) < t.length := by omega
    rcases (by omega : x0 < f ∨ (f ≤ x0 ∧ xn < 1) ∨ (f ≤ x0 ∧ 1 ≤ xn ∧ z ≤ x0) ∨ (f ≤ x0 ∧ 1 ≤ xn ∧ x0 < z ∧ 0 ≤ x0 ∧ z - x0 < xn) ∨ (f ≤ x0 ∧ 1 ≤ xn ∧ x0 < z ∧ x0 < 0 ∧ z < x0 + xn) ∨ ((f ≤ x0 ∧ 1 ≤ xn ∧ x0 < z ∧ 0 ≤ x0 ∧ xn ≤ z - x0) ∨ (f ≤ x0 ∧ 1 ≤ xn ∧ x0 < z ∧ x0 < 0 ∧ x0 + xn ≤ z))) with g1 | ⟨g1, g2⟩ | ⟨g1, g2, g3⟩ | ⟨g1, g2, g3, g4, g5⟩ | ⟨g1, g2, g3, g4, g5⟩ | ⟨g1, g2, g3, g4, g5⟩ | ⟨g1, g2, g3, g4, g5⟩
    iterate 5
     ·have hnn := HNO.out (by omega)
      have HNN := Lib.hid hnn
      clear hnn
      go_wp2_with fail
      go_ret
      exact mayXSays_no HNN.out (HKA.out _ ((Kept.refl _ _).alloc _))
    all_goals
     by_cases hap : y0 + yn ≤ x0
     ·have hok := HSU.out (by omega) hap
      have HOK := Lib.hid hok
      clear hok
      go_wp2_with fail
      go_quiet (fail)
      go_wp2_with fail
      go_roundw
      case rel => exact ⟨n + 1 + 1, HLT.out, by go_num, HOK.out, (hK.alloc _).drewN _⟩
      case measure => (have hh := HLT.out; simp [intOf]; omega)
     ·have hnn := HCL.out g2 (by omega)
      have HNN := Lib.hid hnn
      clear hnn
      go_wp2_with fail
      go_quiet (fail)
      go_wp2_with fail
      go_ret
      exact mayXSays_no HNN.out (HKA.out _ (((Kept.refl _ _).alloc _).drewN _))
  ·obtain rfl : k = t.length := by omega
   have hM : MayX f z l := HMP.out.1 (mayX_rising HRIS.out (fun j hj => hO.1 j hj hj) (fun j hj => hO.2 j hj hj))
   have HM := Lib.hid hM
   clear hM hO
   go_wp2_with fail
   go_ret
   exact mayXSays_yes HM.out (K3.trans hK)
structure SB where
 seq : Nat
 sectors : Int
 journal : Int
 used : Int
 size : Int
 runs : List (Int × Int)
def SB.cells (s : SB) (v : Value) : Array Value := #[.int .u64 s.seq, .int .i64 s.sectors, .int .i64 s.journal, .int .i64 s.used, .int .i64 s.size, v]
def SB.numOk (s : SB) : Prop := 1 ≤ s.seq ∧ 4 ≤ s.sectors ∧ s.sectors ≤ 8192 ∧ 1 ≤ s.journal ∧ s.journal ≤ s.sectors - 2 ∧ 0 ≤ s.used ∧ s.used ≤ s.journal * 128 ∧ 0 ≤ s.size ∧ s.size ≤ 1048576 ∧ s.runs.length ≤ 16
def SB.may (s : SB) : Prop := s.numOk ∧ lies (2 + s.journal) s.sectors s.runs = true ∧ sumLen s.runs = need s.size
theorem SB.num_cases (s : SB) : (¬ s.numOk ∧ ((s.seq < 1) ∨ (1 ≤ s.seq ∧ s.sectors < 4) ∨ (1 ≤ s.seq ∧ 4 ≤ s.sectors ∧ 8192 < s.sectors) ∨
  ((1 ≤ s.seq ∧ 4 ≤ s.sectors ∧ s.sectors ≤ 8192) ∧ ((s.journal < 1) ∨ (1 ≤ s.journal ∧ s.sectors - 2 < s.journal) ∨
  ((1 ≤ s.journal ∧ s.journal ≤ s.sectors - 2) ∧ ((s.used < 0) ∨ (0 ≤ s.used ∧ s.journal * 128 < s.used) ∨
  ((0 ≤ s.used ∧ s.used ≤ s.journal * 128) ∧ ((s.size < 0) ∨ (0 ≤ s.size ∧ 1048576 < s.size) ∨ (0 ≤ s.size ∧ s.size ≤ 1048576 ∧ 16 < s.runs.length))))))))) ∨
  (s.numOk ∧ 1 ≤ s.seq ∧ 4 ≤ s.sectors ∧ s.sectors ≤ 8192 ∧ 1 ≤ s.journal ∧ s.journal ≤ s.sectors - 2 ∧ 0 ≤ s.used ∧ s.used ≤ s.journal * 128 ∧ 0 ≤ s.size ∧ s.size ≤ 1048576 ∧ s.runs.length ≤ 16) := by
 by_cases h : s.numOk
 ·exact Or.inr ⟨h, h⟩
 ·refine Or.inl ⟨h, ?_⟩
  unfold SB.numOk at h
  omega
set_option maxRecDepth 100000 in
set_option maxHeartbeats 1600000 in
theorem pcheck_no (s : SB) (v : Value) (lo hi : Nat) (w : World) (h : RunsIn w v s.runs lo hi) (hno : ¬ s.numOk) (hl : s.runs.length ≤ 1000000) :
  Calls Tryz.prog 164 #[.agg (s.cells v)] w fun e w' => e = .returned (.int .i64 1) ∧ Kept [] w w' := by
 obtain ⟨p, c, rfl⟩ := h.shape
 have hc := s.num_cases
 obtain ⟨sq, a, b, u, z, l⟩ := s
 simp only [SB.cells] at *
 rcases hc with ⟨_, hc⟩ | ⟨hy, _⟩
 ·clear h hno
  rcases hc with g1 | ⟨g1, g2⟩ | ⟨g1, g2, g3⟩ | ⟨⟨g1, g2, g3⟩, g4 | ⟨g4, g5⟩ | ⟨⟨g4, g5⟩, g6 | ⟨g6, g7⟩ | ⟨⟨g6, g7⟩, g8 | ⟨g8, g9⟩ | ⟨g8, g9, g10⟩⟩⟩⟩
  all_goals
   go_enter Tryz.func164, Tryz.ntmps164
   go_wp2_with fail
   go_ret
   exact ⟨rfl, (Kept.refl _ _).alloc _⟩
 ·exact absurd hy hno
def CheckSays (s : SB) (w : World) (e : Ending) (w' : World) : Prop := ((s.may ∧ e = .returned (.int .i64 0)) ∨ (¬ s.may ∧ e = .returned (.int .i64 1))) ∧ Kept [] w w'
set_option maxRecDepth 100000 in
set_option maxHeartbeats 1600000 in
theorem pcheck (s : SB) (v : Value) (lo hi : Nat) (w : World) (h : RunsIn w v s.runs lo hi) (hl : s.runs.length ≤ 1000000) :
  Calls Tryz.prog 164 #[.agg (s.cells v)] w (CheckSays s w) := by
 by_cases hno : s.numOk
 ·have hc := s.num_cases
  rcases hc with ⟨hy, _⟩ | ⟨_, g1, g2, g3, g4, g5, g6, g7, g8, g9, g10⟩
  ·exact absurd hno hy
  ·have hlie := fun w h => plie v s.runs lo hi (2 + s.journal) s.sectors w h hl (by omega) (by omega) (by omega) g3
   have hneed := fun w => pneed s.size w (by simp only [Lit.wf, Bool.and_eq_true, decide_eq_true_eq]; exact ⟨by show (-9223372036854775808 : Int) ≤ _; omega, by show _ ≤ (9223372036854775807 : Int); omega⟩)
   have hyes : lies (2 + s.journal) s.sectors s.runs = true → sumLen s.runs = need s.size → s.may := fun a b => ⟨hno, a, b⟩
   have hn1 : lies (2 + s.journal) s.sectors s.runs = false → ¬ s.may := fun a hm => by rw [hm.2.1] at a; cases a
   have hn2 : sumLen s.runs ≠ need s.size → ¬ s.may := fun a hm => a hm.2.2
   have HY := Lib.hid hyes
   have HN1 := Lib.hid hn1
   have HN2 := Lib.hid hn2
   obtain ⟨p, c, rfl⟩ := h.shape
   clear hyes hn1 hn2 hno
   unfold SB.cells
   generalize s.seq = sq at *
   generalize s.sectors = a at *
   generalize s.journal = b at *
   generalize s.used = u at *
   generalize s.size = z at *
   generalize s.runs = l at *
   have hk0 : ∀ w', Kept [] w w' → RunsIn w' (.slice p l.length c) l lo hi := fun w' hk => h.kept0 hk
   clear h
   have HK := Lib.hid hk0
   clear hk0
   go_enter Tryz.func164, Tryz.ntmps164
   have o := Own.new w #[.int .u64 (sq : Int), .int .i64 a, .int .i64 b, .int .i64 u, .int .i64 z, .slice p l.length c] 58
   go_wp2_with fail
   refine (hlie _ (HK.out _ ((Kept.refl _ _).alloc _))).mono ?_; rintro e w1 ⟨rfl, hk⟩
   have o1 := hk.own o (by simp)
   have c4 := o1.cell 4 (by simp)
   simp only [List.getElem_toArray, List.getElem_cons_succ, List.getElem_cons_zero] at c4
   cases hL : lies (2 + b) a l
   ·have HX := Lib.hid (HN1.out hL)
    rw [if_neg (by simp)]
    clear hL hlie hneed
    go_wp2_with fail
    go_ret
    exact ⟨Or.inr ⟨HX.out, rfl⟩, ((Kept.refl _ _).alloc _).trans hk⟩
   ·rw [if_pos rfl]
    by_cases hq : sumLen l = need z
    ·have HX := Lib.hid (HY.out hL hq)
     have hq2 : (sumLen l == need z) = true := by simpa using hq
     clear hL hlie hq
     generalize sumLen l = m at *
     generalize need z = n at *
     go_wp2_with fail
     refine (hneed _).mono ?_; rintro e w2 ⟨rfl, rfl⟩
     go_wp2_with fail
     go_ret
     exact ⟨Or.inl ⟨HX.out, rfl⟩, ((Kept.refl _ _).alloc _).trans hk⟩
    ·have HX := Lib.hid (HN2.out hq)
     have hq2 : (sumLen l == need z) = false := by simpa using hq
     clear hL hlie hq
     generalize sumLen l = m at *
     generalize need z = n at *
     go_wp2_with fail
     refine (hneed _).mono ?_; rintro e w2 ⟨rfl, rfl⟩
     go_wp2_with fail
     go_ret
     exact ⟨Or.inr ⟨HX.out, rfl⟩, ((Kept.refl _ _).alloc _).trans hk⟩
 ·exact (pcheck_no s v lo hi w h hno hl).mono fun e w' hh => ⟨Or.inr ⟨fun hm => hno hm.1, hh.1⟩, hh.2⟩
def FitSays (l : List (Int × Int)) (n size : Int) (w : World) (e : Ending) (w' : World) : Prop := ∃ r, e = .returned (.bool r) ∧ (r = true ↔ FitX l n size) ∧ Kept [] w w'
theorem fitSays_no {l : List (Int × Int)} {n size : Int} {w w' : World} (h : ¬ FitX l n size) (k : Kept [] w w') : FitSays l n size w (.returned (.bool false)) w' := ⟨false, rfl, ⟨fun q => (by cases q), fun q => absurd q h⟩, k⟩
theorem fitSays_yes {l : List (Int × Int)} {n size : Int} {w w' : World} (h : FitX l n size) (k : Kept [] w w') : FitSays l n size w (.returned (.bool true)) w' := ⟨true, rfl, ⟨fun _ => h, fun _ => rfl⟩, k⟩
set_option maxRecDepth 100000 in
set_option maxHeartbeats 2000000 in
theorem bFit (v : Value) (l : List (Int × Int)) (n size : Int) (lo hi : Nat) (w : World) (h : RunsIn w v l lo hi) (hl : l.length ≤ 1000000) (hwf : ∀ a ∈ l, WfRun a) (hn : (Lit.int .i64 n).wf = true) (hs : (Lit.int .i64 size).wf = true) :
  Calls Tryz.prog 177 #[v, .int .i64 n, .int .i64 size] w (FitSays l n size w) := by
 have bn := bd64 hn
 have bz := bd64 hs
 obtain ⟨m, hm⟩ : ∃ m, min n 8192 = m := ⟨_, rfl⟩
 have HM : ∀ W, Kept [] w W → Calls Tryz.prog 178 #[v, .int .i64 0, .int .i64 m] W (MayXSays 0 m l W) := fun W k => xmay v l 0 m lo hi W (h.kept0 k) hl hwf (by omega) (by omega) (by omega) (by omega)
 have HC : ∀ W, Kept [] w W → Calls Tryz.prog 65 #[v] W fun e w' => e = .returned (.int .i64 (countL l)) ∧ Kept [] W w' := fun W k => xcount v l lo hi W (h.kept0 k) hl hwf
 have HN := fun W => pneed size W hs
 have hfx : FitX l n size ↔ (0 ≤ size ∧ l.length ≤ 16 ∧ MayX 0 m l ∧ (countL l : Int) = need size) := by rw [← hm]; rfl
 have HF := Lib.hid hfx
 obtain ⟨p, c, rfl⟩ := h.shape
 obtain ⟨N, hN⟩ : ∃ N : Int, (l.length : Int) = N := ⟨_, rfl⟩
 have hN16 : l.length ≤ 16 ↔ N ≤ 16 := by omega
 have HNI := Lib.hid hN16
 obtain ⟨C, hC⟩ : ∃ C : Int, (countL l : Int) = C := ⟨_, rfl⟩
 rw [hC] at HF
 have HC' : ∀ W, Kept [] w W → Calls Tryz.prog 65 #[.slice p l.length c] W fun e w' => e = .returned (.int .i64 C) ∧ Kept [] W w' := by rw [← hC]; exact HC
 generalize need size = q at *
 clear HC hfx hN16 h hl hwf hn hs hC
 by_cases h1 : 0 ≤ size
 ·by_cases h2 : N ≤ 16
  ·go_enter Tryz.func177, Tryz.ntmps177
   go_wp2_with fail
   refine (HM _ (Kept.refl _ _)).mono ?_; rintro e w1 ⟨r, rfl, hr, k1⟩
   have HR := Lib.hid hr
   clear hr
   cases r with
   | false =>
    go_wp2_with fail
    go_ret
    exact fitSays_no (fun hf => by have := HR.out.2 (HF.out.1 hf).2.2.1; cases this) k1
   | true =>
    go_wp2_with fail
    refine (HC' _ k1).mono ?_; rintro e w2 ⟨rfl, k2⟩
    have k12 := k1.trans k2
    go_wp2_with fail
    refine (HN _).mono ?_; rintro e w3 ⟨rfl, rfl⟩
    by_cases he : C = q
    ·have e1 : (C == q) = true := by simp [he]
     have e2 : decide (C = q) = true := by simp [he]
     have HE := Lib.hid he
     clear he
     go_wp2_with fail
     go_ret
     exact fitSays_yes (HF.out.2 ⟨h1, HNI.out.2 h2, HR.out.1 (by simp), HE.out⟩) k12
    ·have e1 : (C == q) = false := by simp [he]
     have e2 : decide (C = q) = false := by simp [he]
     have HE := Lib.hid he
     clear he
     go_wp2_with fail
     go_ret
     exact fitSays_no (fun hf => HE.out (HF.out.1 hf).2.2.2) k12
  ·go_enter Tryz.func177, Tryz.ntmps177
   go_wp2_with fail
   go_ret
   exact fitSays_no (fun hf => by have := HNI.out.1 (HF.out.1 hf).2.1; omega) (Kept.refl _ _)
 ·go_enter Tryz.func177, Tryz.ntmps177
  go_wp2_with fail
  go_ret
  exact fitSays_no (fun hf => by have := (HF.out.1 hf).1; omega) (Kept.refl _ _)
theorem getCode_no {d : DK} {l : List (Int × Int)} {size : Int} (h : ¬ FitX l d.stand.length size) : getCode d l size = 1 := if_neg h
theorem getCode_yes {d : DK} {l : List (Int × Int)} {size : Int} (h : FitX l d.stand.length size) : getCode d l size = if d.down = true then 90 else 0 := if_pos h
theorem wf_few {n : Nat} (h : n ≤ 100000000) : (Lit.int .i64 (n : Int)).wf = true := by
 simp only [Lit.wf, Bool.and_eq_true, decide_eq_true_eq]
 exact ⟨by show (-9223372036854775808 : Int) ≤ _; omega, by show _ ≤ (9223372036854775807 : Int); omega⟩
set_option maxRecDepth 100000 in
set_option maxHeartbeats 2000000 in
theorem bcheck {Inv : DK → World → Prop} {b : Nat} (hO : DOps Inv b) (d : DK) (v : Value) (l : List (Int × Int)) (size : Int) (lo hi : Nat) (w : World) (hI : Inv d w) (h : RunsIn w v l lo hi) (hl : l.length ≤ 1000000) (hwf : ∀ a ∈ l, WfRun a) (hs : (Lit.int .i64 size).wf = true) :
  Calls Tryz.prog 104 #[.pointer (some ⟨b, 0, none⟩), v, .int .i64 size] w fun e w' => e = .returned (.int .i64 (getCode d l size)) ∧ Kept [] w w' := by
 obtain ⟨n1, n2⟩ := hO.len hI
 have HL : ∀ W, Kept [] w W → Calls Tryz.prog 36 #[.pointer (some ⟨b, 0, none⟩)] W fun e w' => e = .returned (.int .i64 d.stand.length) ∧ W = w' := fun W k => hO.lenC (hO.keep hI k)
 have HD : ∀ W, Kept [] w W → Calls Tryz.prog 61 #[.pointer (some ⟨b, 0, none⟩)] W fun e w' => e = .returned (.bool d.down) ∧ W = w' := fun W k => hO.downC (hO.keep hI k)
 have HF : ∀ W, Kept [] w W → Calls Tryz.prog 177 #[v, .int .i64 d.stand.length, .int .i64 size] W (FitSays l d.stand.length size W) := fun W k => bFit v l _ size lo hi W (h.kept0 k) hl hwf (wf_few (by omega)) hs
 have HG0 := Lib.hid (@getCode_no d l size)
 have HG1 := Lib.hid (@getCode_yes d l size)
 clear h hl hwf hs
 generalize getCode d l size = G at *
 obtain ⟨N, hN⟩ : ∃ N : Int, (d.stand.length : Int) = N := ⟨_, rfl⟩
 have hN1 : 1 ≤ N := by omega
 have hN2 : N ≤ 8192 := by omega
 rw [hN] at HL HF HG0 HG1
 clear hN n1 n2
 generalize d.down = D at *
 have k0 := Kept.refl [] w
 go_enter Tryz.func104, Tryz.ntmps104
 go_wp2_with fail
 refine (HL _ k0).mono ?_; rintro e w1 ⟨rfl, rfl⟩
 go_wp2_with fail
 refine (HL _ k0).mono ?_; rintro e w1 ⟨rfl, rfl⟩
 go_wp2_with fail
 refine (HF _ k0).mono ?_; rintro e w1 ⟨r, rfl, hr, k1⟩
 have HR := Lib.hid hr
 clear hr
 cases r with
 | false =>
  go_wp2_with fail
  go_ret
  exact ⟨by rw [HG0.out (fun hf => by have := HR.out.2 hf; cases this)]; rfl, k1⟩
 | true =>
  go_wp2_with fail
  refine (HD _ k1).mono ?_; rintro e w2 ⟨rfl, rfl⟩
  cases D with
  | false =>
   go_wp2_with fail
   go_ret
   exact ⟨by rw [HG1.out (HR.out.1 (by simp))]; rfl, k1⟩
  | true =>
   go_wp2_with fail
   go_ret
   exact ⟨by rw [HG1.out (HR.out.1 (by simp))]; rfl, k1⟩
open Classical in
noncomputable def secsE (l : List (Int × Int)) : List Nat := if MayX 0 8192 l then secsL l else []
theorem secsL_le {l : List (Int × Int)} (h : MayX 0 8192 l) : (secsL l).length ≤ 8192 := by
 have h1 := count_may h (by omega)
 have h2 := secsL_len h.1
 have h3 : countL l ≤ 8192 := by
  unfold countL
  have : ∀ f k, cntF f k ≤ k := fun f k => by
   induction k with
   | zero => exact Nat.le_refl _
   | succ k ih => simp only [cntF]; split <;> omega
  exact this _ _
 omega
theorem secsE_le (l : List (Int × Int)) : (secsE l).length ≤ 8192 := by
 unfold secsE
 split
 ·rename_i h; exact secsL_le h
 ·exact Nat.zero_le _
theorem secsE_may {l : List (Int × Int)} (h : MayX 0 8192 l) : secsE l = secsL l := if_pos h
theorem secsE_fit {l : List (Int × Int)} {n size : Int} (h : FitX l n size) : secsE l = secsL l := secsE_may ⟨fun a ha => by
 have := h.2.2.1.1 a ha
 unfold OkX at this ⊢
 omega, h.2.2.1.2⟩
theorem infoInt : ∃ i, Tryz.prog.info? 3 = some i ∧ i.zero = some (.int .i64 0) ∧ i.size = 1 ∧ i.bytes = 8 := by
 have hi : (Tryz.prog.info? 3).map (fun i => (i.zero, i.size, i.bytes)) = some (some (.int .i64 0), 1, 8) := by kernel_rfl
 obtain ⟨i0, hi0, hz0, hz1, hz2⟩ := info_parts hi
 exact ⟨i0, hi0, hz0, hz1, hz2⟩
def intsV (l : List Nat) : List Value := l.map fun k => .int .i64 ((k : Nat) : Int)
end Go.Proofs.YtdkimcnlhmhpgaaGreat

/- -/
namespace Go.Proofs.YtdkimcnlhmhpgaaGreat
open Go.RowKit Go.Shelf
attribute [local go_sem] Oper.semAt_some
theorem RunsIn.wide {w : World} {v : Value} {l : List (Int × Int)} {lo hi : Nat} (h : RunsIn w v l lo hi) : RunsIn w v l 0 w.heap.size := by
 rcases h with h | ⟨b, off, c, h1, h2, h3, h4, h5, h6, h7, h8⟩
 ·exact Or.inl h
 ·exact Or.inr ⟨b, off, c, h1, h2, Nat.zero_le _, by omega, Nat.le_refl _, h6, h7, h8⟩
set_option maxRecDepth 100000 in
set_option maxHeartbeats 2000000 in
theorem each0_in (n : Nat) (l B1 B2 : Nat) (J : List Nat → World → Prop) (W : World) (hB1 : W.cell? ⟨B1, 0, none⟩ = some (.bool false)) (h0 : J [] W) :
  CallsIn Fence.wide n Tryz.prog 179 #[.func (.yield l) #[] #[], .pointer (some ⟨B1, 0, none⟩), .pointer (some ⟨B2, 0, none⟩)] W fun e W' => (∃ v, e = .returned v) ∧ J [] W' := by
 refine callsIn_of_wp Tryz.func179 rfl trivial ?_ rfl
 simp only [Tryz.ntmps179, List.size_toArray, List.length_cons, List.length_nil, Nat.reduceAdd, Nat.reduceSub, Array.replicate_succ, Array.replicate_zero, List.push_toArray, List.append_toArray, List.nil_append, List.cons_append]
 gi_wp2
 refine bodyPost_ret (results_none rfl _ _ _) rfl ?_
 exact ⟨⟨_, rfl⟩, h0⟩
def TellsR (n n₀ : Nat) (l : List (Int × Int)) (v : Value) (w : World) : Prop :=
 ∃ B1 B2 : Nat, v = .func (.func 179) #[] #[.pointer (some ⟨B1, 0, none⟩), .pointer (some ⟨B2, 0, none⟩)] ∧
  SeqStopsK Fence.wide n Tryz.prog 179 #[.pointer (some ⟨B1, 0, none⟩), .pointer (some ⟨B2, 0, none⟩)] (fun k : Nat => #[Value.int .i64 ((k : Nat) : Int)]) (KpR n₀) (fun xs => xs = secsE l) (fun pre => pre <+: secsE l) (secsE l).length w
theorem tells_of (n : Nat) (hn : 1 ≤ n) (n₀ B1 B2 : Nat) (sv : Value) (l : List (Int × Int)) (hl : l.length ≤ 1000000) (r : Bool) (hr : r = true ↔ MayX 0 8192 l) (w : World) (h1 : w.cell? ⟨B1, 0, none⟩ = some (.bool r)) (l1 : B1 < w.heap.size)
  (h2 : w.cell? ⟨B2, 0, none⟩ = some sv) (l2 : B2 < w.heap.size) {lo hi : Nat} (hR : RunsIn w sv l lo hi) (hhi : hi ≤ n₀) (hn0 : n₀ ≤ w.heap.size) :
  TellsR n n₀ l (.func (.func 179) #[] #[.pointer (some ⟨B1, 0, none⟩), .pointer (some ⟨B2, 0, none⟩)]) w := by
 refine ⟨B1, B2, rfl, fun lp J Jx W hW hJ hJx hY h0 => ?_⟩
 have c1 := (hW.cell (p := ⟨B1, 0, none⟩) l1).trans h1
 have c2 := (hW.cell (p := ⟨B2, 0, none⟩) l2).trans h2
 cases r with
 | false =>
  have e : secsE l = [] := if_neg (fun h => by have := hr.2 h; cases this)
  exact (each0_in n lp B1 B2 J W c1 h0).mono fun e' W' ⟨he, hj⟩ => ⟨he, .inl ⟨[], e.symm, hj⟩⟩
 | true =>
  have hm := hr.1 rfl
  have e : secsE l = secsL l := if_pos hm
  rw [e] at hY ⊢
  exact each1_in n hn lp B1 B2 n₀ lo hi sv l hm hl J Jx W hJ hY c1 c2 (hR.belowR (hW.mono (Nat.le_refl _)) (by omega)) hhi (by have := hW.size; omega) h0
set_option maxRecDepth 100000 in
set_option maxHeartbeats 2000000 in
theorem bEach0 (n : Nat) (hn : 1 ≤ n) (n₀ : Nat) (v : Value) (l : List (Int × Int)) (lo hi : Nat) (w : World) (h : RunsIn w v l lo hi) (hl : l.length ≤ 1000000) (hwf : ∀ a ∈ l, WfRun a) (hhi : hi ≤ n₀) (hn0 : n₀ ≤ w.heap.size) :
  Calls Tryz.prog 105 #[v] w fun e w' => ∃ f, e = .returned f ∧ Kept [] w w' ∧ TellsR n n₀ l f w' := by
 have hmf : ∀ (fn : Fn) (first cap : Array Value) (w : World), (Instr.makeFunc fn first cap).run Tryz.prog w = .ok (.func fn first cap) w := fun _ _ _ _ => rfl
 have HM : ∀ W, Kept [] w W → Calls Tryz.prog 178 #[v, .int .i64 0, .int .i64 8192] W (MayXSays 0 8192 l W) := fun W k => xmay v l 0 8192 lo hi W (h.kept0 k) hl hwf (by omega) (by omega) (by omega) (by omega)
 have HW := Lib.hid h
 have k0 := (Kept.refl [] w).alloc (.cells #[v] 56)
 have o0 := Own.new w #[v] 56
 obtain ⟨p, c, rfl⟩ := h.shape
 clear h
 go_enter Tryz.func105, Tryz.ntmps105
 go_wp2_with fail
 refine (HM _ k0).mono ?_; rintro e w1 ⟨r, rfl, hr, k1⟩
 have HR := Lib.hid hr
 clear hr
 have o1 := k1.own o0 (by simp)
 have k01 := k0.trans k1
 go_wp2_with fail
 go_ret
 have HR' := HR.out
 have kA := k01.alloc (.cells #[.bool r] 4)
 have oA := Own.new w1 #[.bool r] 4
 have oB : Own (w1.alloc (.cells #[.bool r] 4)) w.heap.size #[.slice p l.length c] 56 := ((Kept.refl [] w1).alloc _).own o1 (by simp)
 have sz := kA.size
 exact ⟨_, rfl, kA, tells_of n hn n₀ w1.heap.size w.heap.size _ l hl r HR' _ (Boxed.cell (t := 4) oA) oA.lt (Boxed.cell (t := 56) oB) oB.lt (HW.out.kept0 kA) hhi (Nat.le_trans hn0 sz)⟩
attribute [local go_sem] Oper.semAt_some
theorem kpr_append {W w1 : World} {n₀ B base size k : Nat} {t e : TypeId} {v v' : Value} {xs : List Value} {tmp : Obj} (hv : Boxed W B t v) (ht : t ≠ 128) (hrow : W.ownsRow base e size v k xs) (he : e ≠ 128)
  (hgrow : (W.alloc tmp).grownBy w1 v.ownBlock) (hb : Below n₀ W (w1.setCell ⟨B, 0, none⟩ v')) : KpR n₀ W (w1.setCell ⟨B, 0, none⟩ v') := by
 refine ⟨hb, fun i cs f hk => ?_⟩
 have hlt : i < W.heap.size := (Array.getElem?_eq_some_iff.1 hk).1
 have h1 : i ≠ B := fun e' => by
  subst e'
  rw [show W.heap[i]? = _ from hv] at hk
  injection hk with hk
  injection hk with _ ht'
  exact ht ht'
 have h2 : some i ≠ v.ownBlock := by
  rcases hrow.2 with ⟨rfl, _⟩ | ⟨g, cap, cur, rfl, _, hgb, _⟩
  ·simp [Value.ownBlock]
  ·intro e'
   obtain rfl : i = g := by simpa [Value.ownBlock] using e'
   rw [hgb] at hk
   injection hk with hk
   injection hk with _ he'
   exact he he'
 exact (Below.heap_setCell _ _ _ _ h1).trans ((hgrow.block i (by simp; omega) h2).trans ((Below.heap_alloc _ _ _ hlt).trans hk))
end Go.Proofs.YtdkimcnlhmhpgaaGreat
