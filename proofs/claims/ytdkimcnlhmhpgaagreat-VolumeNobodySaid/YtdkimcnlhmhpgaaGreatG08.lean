/- -/
import Derived.Test.YtdkimcnlhmhpgaaGreatProg
import Derived.Test.YtdkimcnlhmhpgaaGreatG01
import Derived.Test.YtdkimcnlhmhpgaaGreatG07
import Derived.BigQuiet
import Derived.WalkKit
import Derived.Maps.OwnSet
import Derived.Maps.Own
import Derived.Laws.MakeOwn
import Derived.Maps.AppendAt
import Derived.Deep.AppendLies
import Derived.RegionTactic
import Derived.OwnWalk
set_option linter.unusedVariables false
set_option linter.unusedSimpArgs false
namespace Go.Proofs.YtdkimcnlhmhpgaaGreat
open Go.RowKit
set_option maxRecDepth 100000 in
theorem pcloneR (v : Value) (l : List (Int × Int)) (lo hi : Nat) (w : World) (h : RunsIn w v l lo hi) (hl : l.length ≤ 1000000) :
    Calls Tryz.prog 69 #[v] w (GivesR l w) := by
  obtain ⟨i0, hi0, hz0, hz1, hz2⟩ := infoRun
  have q22 : ∀ (w : World) (a : Option Addr) (n c n' c' : Nat), (binOp .eql 56 (.slice a n c) (.slice none n' c')).run Tryz.prog w = .ok (.bool a.isNone) w := fun w a n c n' c' => Lib.run_eql_slice_nil w _ _ a n c n' c' Tryz.underlying56
  obtain ⟨p, c, rfl⟩ := h.shape
  unfold GivesR
  cases p with
  | none =>
    have hl0 : l = [] := by
      rcases h with ⟨h, _⟩ | ⟨b, off, c', e, _⟩
      · exact h
      · simp at e
    subst hl0
    go_enter Tryz.func69, Tryz.ntmps69
    go_wp2_with fail
    go_ret
    exact ⟨_, rfl, World.ownsRow_nil _ _ _ _, Kept.refl _ _⟩
  | some ad =>
    have hcell : ∀ j u, (rcells l)[j]? = some u → w.cell? (ad.add j) = some u := by
      rcases h with ⟨rfl, _⟩ | ⟨b, off, c', e, h2⟩
      · intro j u hj; simp [rcells] at hj
      · simp at e
        obtain ⟨rfl, rfl⟩ := e
        have hh : RunsIn w (.slice (some ⟨b, off, none⟩) l.length c) l lo hi := Or.inr ⟨b, off, c, rfl, h2⟩
        intro j u hj
        rw [Go.WideShapes.add_plain]
        exact hh.cells j u hj
    have A := Lib.hid hcell
    clear hcell h
    have hr1 := rcells_len l
    have hr2 := rcells_one l
    have HR1 := Lib.hid hr1
    have HR2 := Lib.hid hr2
    clear hr1 hr2
    go_enter Tryz.func69, Tryz.ntmps69
    go_wp2_with (at_builtin; refine wpList_append_own _ rfl _ _ 56 rfl w.heap.size 128 i0 _ 2 16 Tryz.underlying56 hi0 hz0 hz1 hz2 rfl (by decide) _ _ _ rfl (World.ownsRow_made w #[] 0 (Nat.le_refl _) (Nat.zero_le _) (by simp)) ad l.length c (rcells l) rfl ?qc1 ?qc2 ?qc3 ?qc4 ?qc5 ?qc6 ?_)
    case qc1 => exact HR1.out
    case qc2 => intro j u hj; exact Lib.cell?_alloc_some _ (A.out j u hj)
    case qc3 => exact HR2.out
    case qc4 => unfold maxLen; omega
    case qc5 => omega
    case qc6 => simp
    intro v' w1 hown hgrow hnil
    have hro : w1.ownsRow w.heap.size 128 2 v' l.length (rcells l) := by simpa using hown
    have HRO := Lib.hid hro
    have hk1 : Kept [] w w1 := ((Kept.refl _ _).alloc _).grown hgrow (fun k hk => Or.inr (by simp [Value.ownBlock] at hk; omega))
    clear hown hgrow hnil hro
    go_wp2_with fail
    go_ret
    exact ⟨_, rfl, HRO.out, hk1⟩
theorem mayX_rising {f z : Int} {t : List (Int × Int)} (hr : Rising t) (hok : ∀ j (hj : j < t.length), OkX f z t[j]) (hch : ∀ j (hj : j + 1 < t.length), t[j].1 + t[j].2 ≤ t[j + 1].1) : MayX f z t := by
  refine ⟨fun a ha => ?_, ?_⟩
  · obtain ⟨j, hj, rfl⟩ := List.mem_iff_getElem.1 ha
    exact hok j hj
  · rw [List.pairwise_iff_getElem]
    intro i j hi hj hij
    refine Or.inl ?_
    have h1 := hch i (by omega)
    by_cases e : j = i + 1
    · subst e; exact h1
    · have h2 := List.pairwise_iff_getElem.1 hr (i + 1) j (by omega) hj (by omega)
      omega
theorem mayX_clash {f z : Int} {t : List (Int × Int)} {n : Nat} (hr : Rising t) (hn : n + 1 < t.length) (h1 : 1 ≤ t[n + 1].2) (h : t[n + 1].1 < t[n].1 + t[n].2) : ¬ MayX f z t := fun hm => by
  have h2 := List.pairwise_iff_getElem.1 hm.2 n (n + 1) (by omega) hn (by omega)
  have h3 := List.pairwise_iff_getElem.1 hr n (n + 1) (by omega) hn (by omega)
  rcases h2 with h2 | h2 <;> omega
def OkTo (f z : Int) (t : List (Int × Int)) (k : Nat) : Prop := (∀ j (hj : j < t.length), j < k → OkX f z t[j]) ∧ ∀ j (hj : j + 1 < t.length), j + 1 < k → t[j].1 + t[j].2 ≤ t[j + 1].1
theorem okTo_zero (f z : Int) (t : List (Int × Int)) : OkTo f z t 0 := ⟨fun j _ h => by omega, fun j _ h => by omega⟩
theorem okTo_one {f z : Int} {t : List (Int × Int)} (h0 : 0 < t.length) (h : OkX f z t[0]) : OkTo f z t 1 := ⟨fun j _ hj => by
  obtain rfl : j = 0 := by omega
  exact h, fun j _ h => by omega⟩
theorem okTo_succ {f z : Int} {t : List (Int × Int)} {n : Nat} (hn : n + 1 < t.length) (h : OkTo f z t (n + 1)) (h1 : OkX f z t[n + 1]) (h2 : t[n].1 + t[n].2 ≤ t[n + 1].1) : OkTo f z t (n + 1 + 1) := by
  refine ⟨fun j hj hjk => ?_, fun j hj hjk => ?_⟩
  · by_cases e : j = n + 1
    · subst e; exact h1
    · exact h.1 j hj (by omega)
  · by_cases e : j = n
    · subst e; exact h2
    · exact h.2 j hj (by omega)
set_option maxRecDepth 100000 in
set_option maxHeartbeats 4000000 in
theorem xmay (v : Value) (l : List (Int × Int)) (f z : Int) (lo hi : Nat) (w : World) (h : RunsIn w v l lo hi) (hl : l.length ≤ 1000000) (hwf : ∀ a ∈ l, WfRun a) (f1 : -9223372036854775808 ≤ f) (f2 : f ≤ 9223372036854775807) (s1 : -9223372036854775808 ≤ z) (s2 : z ≤ 9223372036854775807) :
    Calls Tryz.prog 178 #[v, .int .i64 f, .int .i64 z] w (MayXSays f z l w) := by
  have hc := pcloneR v l lo hi w h hl
  unfold GivesR at hc
  obtain ⟨p, c, rfl⟩ := h.shape
  have HC := Lib.hid hc
  have HWF := Lib.hid hwf
  have hso := fun v1 w1 (r1 : w1.ownsRow w.heap.size 128 2 v1 l.length (rcells l)) => xsort2 w.heap.size v1 l w1 r1 hl
  unfold SortSays at hso
  have HSO := Lib.hid hso
  clear h hc hwf hso
  generalize hN : l.length = N at *
  have HN := Lib.hid hN
  clear hN
  go_enter Tryz.func178, Tryz.ntmps178
  go_wp2_with fail
  refine HC.out.mono ?_; rintro e w1 ⟨v1, rfl, r1, k1⟩
  have hso := HSO.out _ _ r1
  have HSO := Lib.hid hso
  obtain ⟨p1, c1, rfl⟩ := own_shape r1
  clear hso r1
  go_wp2_with fail
  refine HSO.out.mono ?_; rintro e w3 ⟨rfl, t, hperm, hris, hs3, k3⟩
  have K3 : Kept [] w w3 := by
    rcases hs3.2 with ⟨e1, _⟩ | ⟨g, cap, cur, e1, hb, _⟩
    · exact k1.call (k3 [] (fun g hg => by rw [e1] at hg; simp [Value.ownBlock] at hg)) (fun x hx => by cases hx)
    · refine k1.call (k3 [g] (fun g' hg => ?_)) (fun x hx => Or.inr ?_)
      · rw [e1] at hg
        have : g = g' := by simpa [Value.ownBlock] using hg
        simp [this]
      · have hx : x = g := by simpa using hx
        omega
  have hsl : N = t.length := by rw [← HN.out]; exact hperm.length_eq.symm
  clear HN
  subst hsl
  have hS := RunsIn.of_own hs3
  have hmp : MayX f z t ↔ MayX f z l := mayX_perm hperm
  have hwt : ∀ a ∈ t, WfRun a := fun a ha => HWF.out a (hperm.mem_iff.1 ha)
  have HS := Lib.hid hS
  have HMP := Lib.hid hmp
  have HWT := Lib.hid hwt
  have HRIS := Lib.hid hris
  clear hS hmp hwt hris hs3 k3 HSO HWF hperm HC
  have j1 : (t.length : Int) ≤ 1000000 := by omega
  have hw3 := K3.size
  go_wp2_with fail
  go_loopw [16] (fun i wr => ∃ k : Nat, k ≤ t.length ∧ i = .int .i64 k ∧ OkTo f z t k ∧ Kept [] w3 wr) (fun i _ => t.length - (intOf i).toNat)
  case atStart => exact ⟨0, by omega, rfl, okTo_zero _ _ _, Kept.refl _ _⟩
  case round =>
    obtain ⟨k, hk, rfl, hO, hK⟩ := hrel
    by_cases hlt : k < t.length
    · obtain ⟨b, off, rfl, c0, c1, hb, hlc, hcm⟩ := (HS.out.kept0 hK).at_ k hlt
      have hwk := HWT.out t[k] (List.getElem_mem hlt)
      have hno : ¬ OkX f z t[k] → ¬ MayX f z l := fun hh hm => hh ((HMP.out.2 hm).1 _ (List.getElem_mem hlt))
      have i1 : (k : Int) < t.length := by omega
      have HNO := Lib.hid hno
      have HLT := Lib.hid hlt
      have HO := Lib.hid hO
      have hkall : ∀ wx, Kept [] wr wx → Kept [] w wx := fun wx hx => (K3.trans hK).trans hx
      have HKA := Lib.hid hkall
      clear hno hO hkall
      rcases Nat.eq_zero_or_pos k with rfl | hpos
      · have hone := fun hh => okTo_one (f := f) (z := z) hlt hh
        have HONE := Lib.hid hone
        clear hone
        generalize t[0] = X at *
        obtain ⟨x0, xn⟩ := X
        obtain ⟨w1', w2', w3', w4'⟩ := hwk
        unfold OkX at HNO HONE
        simp only [Nat.zero_mul, Nat.add_zero] at c0 c1
        simp only at c0 c1 w1' w2' w3' w4' HNO HONE
        rcases (by omega : x0 < f ∨ (f ≤ x0 ∧ xn < 1) ∨ (f ≤ x0 ∧ 1 ≤ xn ∧ z ≤ x0) ∨ (f ≤ x0 ∧ 1 ≤ xn ∧ x0 < z ∧ 0 ≤ x0 ∧ z - x0 < xn) ∨ (f ≤ x0 ∧ 1 ≤ xn ∧ x0 < z ∧ x0 < 0 ∧ z < x0 + xn) ∨ ((f ≤ x0 ∧ 1 ≤ xn ∧ x0 < z ∧ 0 ≤ x0 ∧ xn ≤ z - x0) ∨ (f ≤ x0 ∧ 1 ≤ xn ∧ x0 < z ∧ x0 < 0 ∧ x0 + xn ≤ z))) with g1 | ⟨g1, g2⟩ | ⟨g1, g2, g3⟩ | ⟨g1, g2, g3, g4, g5⟩ | ⟨g1, g2, g3, g4, g5⟩ | ⟨g1, g2, g3, g4, g5⟩ | ⟨g1, g2, g3, g4, g5⟩
        iterate 5
          · have hnn := HNO.out (by omega)
            have HNN := Lib.hid hnn
            clear hnn
            go_wp2_with fail
            go_ret
            exact mayXSays_no HNN.out (HKA.out _ ((Kept.refl _ _).alloc _))
        all_goals
          have hok := HONE.out (by omega)
          have HOK := Lib.hid hok
          clear hok
          go_wp2_with fail
          go_quiet (fail)
          go_wp2_with fail
          go_roundw
          case rel => exact ⟨0 + 1, HLT.out, by go_num, HOK.out, (hK.alloc _).drewN _⟩
          case measure => (have hh := HLT.out; simp [intOf]; omega)
      · obtain ⟨n, rfl⟩ : ∃ n, k = n + 1 := ⟨k - 1, by omega⟩
        obtain ⟨b', off', e', d0, d1, _⟩ := (HS.out.kept0 hK).at_ n (by omega)
        injection e' with e'
        injection e' with e1 e2 _
        subst e1 e2
        have hnl : n < t.length := by omega
        have hprev := HO.out.1 n hnl (by omega)
        have hsu := fun h1 h2 => okTo_succ hlt HO.out h1 h2
        have hcl : 1 ≤ t[n + 1].2 → t[n + 1].1 < t[n].1 + t[n].2 → ¬ MayX f z l := fun h1 h2 hm => mayX_clash HRIS.out hlt h1 h2 (HMP.out.2 hm)
        have HSU := Lib.hid hsu
        have HCL := Lib.hid hcl
        clear hsu hcl HO hpos
        generalize t[n + 1] = X at *
        generalize t[n] = Y at *
        obtain ⟨x0, xn⟩ := X
        obtain ⟨y0, yn⟩ := Y
        obtain ⟨w1', w2', w3', w4'⟩ := hwk
        obtain ⟨q1, q2, q3, q4⟩ := hprev
        unfold OkX at HNO HSU
        simp only at c0 c1 w1' w2' w3' w4' HNO HSU d0 d1 q1 q2 q3 q4 HCL
        have i2 : (n : Int) + 1 < t.length := by omega
        have i3 : (n : Int) < t.length := by omega
        rcases (by omega : x0 < f ∨ (f ≤ x0 ∧ xn < 1) ∨ (f ≤ x0 ∧ 1 ≤ xn ∧ z ≤ x0) ∨ (f ≤ x0 ∧ 1 ≤ xn ∧ x0 < z ∧ 0 ≤ x0 ∧ z - x0 < xn) ∨ (f ≤ x0 ∧ 1 ≤ xn ∧ x0 < z ∧ x0 < 0 ∧ z < x0 + xn) ∨ ((f ≤ x0 ∧ 1 ≤ xn ∧ x0 < z ∧ 0 ≤ x0 ∧ xn ≤ z - x0) ∨ (f ≤ x0 ∧ 1 ≤ xn ∧ x0 < z ∧ x0 < 0 ∧ x0 + xn ≤ z))) with g1 | ⟨g1, g2⟩ | ⟨g1, g2, g3⟩ | ⟨g1, g2, g3, g4, g5⟩ | ⟨g1, g2, g3, g4, g5⟩ | ⟨g1, g2, g3, g4, g5⟩ | ⟨g1, g2, g3, g4, g5⟩
        iterate 5
          · have hnn := HNO.out (by omega)
            have HNN := Lib.hid hnn
            clear hnn
            go_wp2_with fail
            go_ret
            exact mayXSays_no HNN.out (HKA.out _ ((Kept.refl _ _).alloc _))
        all_goals
          by_cases hap : y0 + yn ≤ x0
          · have hok := HSU.out (by omega) hap
            have HOK := Lib.hid hok
            clear hok
            go_wp2_with fail
            go_quiet (fail)
            go_wp2_with fail
            go_roundw
            case rel => exact ⟨n + 1 + 1, HLT.out, by go_num, HOK.out, (hK.alloc _).drewN _⟩
            case measure => (have hh := HLT.out; simp [intOf]; omega)
          · have hnn := HCL.out g2 (by omega)
            have HNN := Lib.hid hnn
            clear hnn
            go_wp2_with fail
            go_quiet (fail)
            go_wp2_with fail
            go_ret
            exact mayXSays_no HNN.out (HKA.out _ (((Kept.refl _ _).alloc _).drewN _))
    · obtain rfl : k = t.length := by omega
      have hM : MayX f z l := HMP.out.1 (mayX_rising HRIS.out (fun j hj => hO.1 j hj hj) (fun j hj => hO.2 j hj hj))
      have HM := Lib.hid hM
      clear hM hO
      go_wp2_with fail
      go_ret
      exact mayXSays_yes HM.out (K3.trans hK)
end Go.Proofs.YtdkimcnlhmhpgaaGreat

/- -/
namespace Go.Proofs.YtdkimcnlhmhpgaaGreat
open Go.RowKit Go.Maps
def lastOf (l : List (Nat × List UInt8)) (i : Nat) : Option (List UInt8) := l.foldl (fun acc x => if x.1 = i then some x.2 else acc) none
theorem lastOf_nil (i : Nat) : lastOf [] i = none := rfl
theorem lastOf_snoc (l : List (Nat × List UInt8)) (x : Nat × List UInt8) (i : Nat) : lastOf (l ++ [x]) i = if x.1 = i then some x.2 else lastOf l i := by
  unfold lastOf; rw [List.foldl_append]; rfl
theorem intLaw : Keyed Tryz.prog 3 := int_keyed Tryz.underlying3
def MapAt (w : World) (mb n : Nat) (f : Nat → Option (List UInt8)) : Prop :=
  ∃ D : DataW Unit, w.ownsMap Tryz.prog 3 (plainElem Tryz.prog 9) mb n D ∧ ∀ i : Nat, i ≤ 8192 → Maps.has D (.int .i64 i) = (f i).isSome ∧ ∀ s, f i = some s → ∀ z, D.atKey (.int .i64 i) z = .lit (.string s)
theorem MapAt.lt {w : World} {mb n : Nat} {f : Nat → Option (List UInt8)} (h : MapAt w mb n f) : mb < w.heap.size := by obtain ⟨D, h, _⟩ := h; exact h.lt
theorem MapAt.made (w : World) : MapAt (w.alloc (.map #[] 0)) w.heap.size 0 (fun _ => none) :=
  ⟨.map [], World.ownsMap_made _ _ _ _, fun i _ => ⟨rfl, fun s h => by cases h⟩⟩
theorem MapAt.block {w w' : World} {mb n : Nat} {f : Nat → Option (List UInt8)} (h : MapAt w mb n f) (hb : w'.heap[mb]? = w.heap[mb]?) : MapAt w' mb n f := by
  obtain ⟨D, ⟨es, clock, h1, h2⟩, h3⟩ := h
  exact ⟨D, ⟨es, clock, hb.trans h1, h2⟩, h3⟩
theorem MapAt.kept {S : List Nat} {w w' : World} {mb n : Nat} {f : Nat → Option (List UInt8)} (h : MapAt w mb n f) (k : Kept S w w') (hS : mb ∉ S) : MapAt w' mb n f :=
  h.block (k.block mb h.lt hS)
theorem MapAt.other {w : World} {mb n : Nat} {f : Nat → Option (List UInt8)} (h : MapAt w mb n f) {p : Addr} (hp : mb ≠ p.block) (u : Value) : MapAt (w.setCell p u) mb n f :=
  h.block (Below.heap_setCell w p u mb hp)
theorem MapAt.alloc {w : World} {mb n : Nat} {f : Nat → Option (List UInt8)} (h : MapAt w mb n f) (o : Obj) : MapAt (w.alloc o) mb n f :=
  h.kept ((Kept.refl [] w).alloc o) (by simp)
theorem key_i64 (i : Nat) (h : i ≤ 8192) : keyOf Tryz.prog 3 (.int .i64 i) = some (.int .i64 i) := keyOf_int_mk Tryz.underlying3 (WalkArith.wf_i64 (by omega))
theorem plain_string_inv {H : Type} {P : Program} {e : TypeId} (he : P.underlying e = some .string) {v : Value} {z : DataW H × List MemPlace} (h : plainElem P e v = some z) : ∃ s : ByteArray, v = .string s ∧ z = (.lit (.string s.data.toList), []) ∧ s.size ≤ maxLen := by
  unfold plainElem at h
  rw [he] at h
  cases v <;> simp at h
  exact ⟨_, rfl, h.2.symm, h.1⟩
set_option maxRecDepth 100000 in
theorem MapAt.look {w : World} {mb n : Nat} {f : Nat → Option (List UInt8)} (h : MapAt w mb n f) (i : Nat) (hi : i ≤ 8192) :
    (Instr.lookup 136 (.map (some mb)) (.int .i64 i) true).run Tryz.prog w = .ok (.tuple #[.string (bs ((f i).getD [])), .bool (f i).isSome]) w := by
  obtain ⟨D, hown, hf⟩ := h
  have hz : (zeroValue 9).run Tryz.prog w = .ok (.string ⟨#[]⟩) w := by kernel_rfl
  obtain ⟨v, ps, hrun, hv⟩ := hown.look_ok intLaw Tryz.underlying136 hz (zd := .lit (.string [])) (zp := []) (plainElem_string Tryz.underlying9 (s := ⟨#[]⟩) (by decide)) (key_i64 i hi)
  obtain ⟨s, rfl, hs, _⟩ := plain_string_inv Tryz.underlying9 hv
  have hs := congrArg Prod.fst hs
  obtain ⟨h1, h2⟩ := hf i hi
  rw [hrun, h1]
  cases hfi : f i with
  | none =>
    rw [hfi] at h1
    rw [atKey_of_not_has h1] at hs
    injection hs with hs
    injection hs with hs
    have e : s = bs [] := by rw [← bs_of s, ← hs]
    rw [e]; rfl
  | some t =>
    rw [h2 t hfi] at hs
    injection hs with hs
    injection hs with hs
    have e : s = bs t := by rw [← bs_of s, ← hs]
    rw [e]; rfl
theorem MapAt.put {w w' : World} {mb n : Nat} {D : DataW Unit} {f : Nat → Option (List UInt8)} (hD : IsMap D) (hf : ∀ i : Nat, i ≤ 8192 → Maps.has D (.int .i64 i) = (f i).isSome ∧ ∀ s, f i = some s → ∀ z, D.atKey (.int .i64 i) z = .lit (.string s))
    (i : Nat) (hi : i ≤ 8192) (s : List UInt8) (h : w'.ownsMap Tryz.prog 3 (plainElem Tryz.prog 9) mb n (D.put (.int .i64 i) (.lit (.string s)))) : MapAt w' mb n (fun j => if i = j then some s else f j) := by
  refine ⟨_, h, fun j hj => ?_⟩
  by_cases e : i = j
  · subst e
    simp only [↓reduceIte]
    refine ⟨has_put_same hD (by simp [WideAt.IsKeyLit]) _, fun s' hs z => ?_⟩
    injection hs with hs
    subst hs
    exact atKey_put_same hD (by simp [WideAt.IsKeyLit]) _ z
  · simp only [e, ↓reduceIte]
    have hne : (Lit.int .i64 (j : Int)) ≠ .int .i64 (i : Int) := fun hh => by injection hh with _ hh; omega
    rw [has_put_other hne]
    refine ⟨(hf j hj).1, fun s' hs z => ?_⟩
    rw [atKey_put_other hne]
    exact (hf j hj).2 s' hs z
structure DK where
  stand : List (List UInt8)
  waits : List (Nat × List UInt8)
  fuse : Int
  ops : Nat
  down : Bool
def scells (l : List (List UInt8)) : Array Value := (l.map fun s => Value.string (bs s)).toArray
def wcells (l : List (Nat × List UInt8)) : List Value := (l.map fun x => [Value.int .i64 (x.1 : Int), Value.string (bs x.2)]).flatten
def DiskAt (w : World) (b sb mb lo : Nat) (d : DK) : Prop :=
  ∃ wv n, Own w b #[.slice (some ⟨sb, 0, none⟩) d.stand.length d.stand.length, wv, .map (some mb), .int .i64 d.fuse, .int .i64 d.ops, .bool d.down] 138 ∧
    Own w sb (scells d.stand) 9 ∧ w.ownsRow lo 206 2 wv d.waits.length (wcells d.waits) ∧ MapAt w mb n (lastOf d.waits) ∧ n ≤ d.waits.length ∧
    sb < b ∧ mb < b ∧ sb ≠ mb ∧ b < lo ∧ lo ≤ w.heap.size ∧ 1 ≤ d.stand.length ∧ d.stand.length ≤ 8192 ∧ -1 ≤ d.fuse ∧ d.fuse ≤ 9223372036854775807 ∧ d.ops ≤ 100000
end Go.Proofs.YtdkimcnlhmhpgaaGreat

/- -/
namespace Go.Proofs.YtdkimcnlhmhpgaaGreat
open Go.RowKit
theorem scells_get (l : List (List UInt8)) (i : Nat) (h : i < l.length) : (scells l)[i]'(by simp [scells]; exact h) = .string (bs l[i]) := by simp [scells]
theorem DiskAt.six {w : World} {b sb mb lo : Nat} {d : DK} (h : DiskAt w b sb mb lo d) : ∃ p c, w.cell? ⟨b, 0, none⟩ = some (.slice (some ⟨sb, 0, none⟩) d.stand.length d.stand.length) ∧ w.cell? ⟨b, 1, none⟩ = some (.slice p d.waits.length c) ∧ w.cell? ⟨b, 2, none⟩ = some (.map (some mb)) ∧ w.cell? ⟨b, 3, none⟩ = some (.int .i64 d.fuse) ∧ w.cell? ⟨b, 4, none⟩ = some (.int .i64 d.ops) ∧ w.cell? ⟨b, 5, none⟩ = some (.bool d.down) ∧ 1 ≤ d.stand.length ∧ d.stand.length ≤ 8192 ∧ d.ops ≤ 100000 := by
  obtain ⟨wv, n, o, os, hw, hm, h1, h2, h3, h4, h5, h6, h7, h8, h9, h10, h11⟩ := h
  obtain ⟨p, c, rfl⟩ := own_shape hw
  obtain ⟨c0, c1, c2, c3, c4, c5⟩ := o.c6
  exact ⟨p, c, c0, c1, c2, c3, c4, c5, h7, h8, h11⟩
def readyOf (d : DK) : Int := if d.down then 90 else 0
theorem dReady (b sb mb lo : Nat) (d : DK) (w : World) (h : DiskAt w b sb mb lo d) : Calls Tryz.prog 89 #[.pointer (some ⟨b, 0, none⟩)] w fun e w' => e = .returned (.int .i64 (readyOf d)) ∧ w = w' := by
  obtain ⟨p, c, c0, c1, c2, c3, c4, c5, h1, h2, h3⟩ := h.six
  have hne : ((d.stand.length : Int) == 0) = false := by rw [beq_eq_false_iff_ne]; omega
  unfold readyOf
  generalize d.stand.length = n at *
  cases hd : d.down
  · rw [hd] at c5
    clear h hd
    go_enter Tryz.func89, Tryz.ntmps89
    go_wp2_with fail
    go_ret
    exact ⟨rfl, rfl⟩
  · rw [hd] at c5
    clear h hd
    go_enter Tryz.func89, Tryz.ntmps89
    go_wp2_with fail
    go_ret
    exact ⟨rfl, rfl⟩
def atOf (d : DK) (i : Int) : Int := if d.down then 90 else if i < 0 ∨ (d.stand.length : Int) ≤ i then 5 else 0
theorem dAt (b sb mb lo : Nat) (d : DK) (i : Int) (w : World) (h : DiskAt w b sb mb lo d) : Calls Tryz.prog 120 #[.pointer (some ⟨b, 0, none⟩), .int .i64 i] w fun e w' => e = .returned (.int .i64 (atOf d i)) ∧ w = w' := by
  have hr := dReady b sb mb lo d w h
  obtain ⟨p, c, c0, c1, c2, c3, c4, c5, h1, h2, h3⟩ := h.six
  unfold readyOf at hr
  unfold atOf
  generalize d.stand.length = n at *
  cases hd : d.down
  · rw [hd] at hr
    simp only [Bool.false_eq_true, if_false] at hr ⊢
    clear h hd
    rcases (by omega : i < 0 ∨ (0 ≤ i ∧ i < n) ∨ (0 ≤ i ∧ ¬ (i < n))) with h1 | ⟨h1, h2⟩ | ⟨h1, h2⟩
    · rw [if_pos (Or.inl h1)]
      go_enter Tryz.func120, Tryz.ntmps120
      go_wp2_with fail
      refine hr.mono ?_; rintro e w' ⟨rfl, rfl⟩
      go_wp2_with fail
      go_ret
      exact ⟨rfl, rfl⟩
    · rw [if_neg (by omega)]
      go_enter Tryz.func120, Tryz.ntmps120
      go_wp2_with fail
      refine hr.mono ?_; rintro e w' ⟨rfl, rfl⟩
      go_wp2_with fail
      go_ret
      exact ⟨rfl, rfl⟩
    · rw [if_pos (Or.inr (by omega))]
      go_enter Tryz.func120, Tryz.ntmps120
      go_wp2_with fail
      refine hr.mono ?_; rintro e w' ⟨rfl, rfl⟩
      go_wp2_with fail
      go_ret
      exact ⟨rfl, rfl⟩
  · rw [hd] at hr
    simp only [if_true] at hr ⊢
    clear h hd
    go_enter Tryz.func120, Tryz.ntmps120
    go_wp2_with fail
    refine hr.mono ?_; rintro e w' ⟨rfl, rfl⟩
    go_wp2_with fail
    go_ret
    exact ⟨rfl, rfl⟩
def seen (d : DK) (i : Nat) : List UInt8 := (lastOf d.waits i).getD (d.stand.getD i [])
theorem dRead_no (b sb mb lo : Nat) (d : DK) (i : Int) (w : World) (h : DiskAt w b sb mb lo d) (hno : atOf d i ≠ 0) : Calls Tryz.prog 62 #[.pointer (some ⟨b, 0, none⟩), .int .i64 i] w fun e w' => e = .returned (.tuple #[.string ⟨#[]⟩, .int .i64 (atOf d i)]) ∧ w = w' := by
  have hr := dAt b sb mb lo d i w h
  clear h
  generalize atOf d i = x at *
  have hx : (x == 0) = false := by simpa using hno
  clear hno
  go_enter Tryz.func62, Tryz.ntmps62
  go_wp2_with fail
  refine hr.mono ?_; rintro e w' ⟨rfl, rfl⟩
  go_wp2_with fail
  go_ret2
  exact ⟨rfl, rfl⟩
set_option maxRecDepth 100000 in
theorem dRead (b sb mb lo : Nat) (d : DK) (i : Nat) (w : World) (h : DiskAt w b sb mb lo d) (hd : d.down = false) (hi : i < d.stand.length) : Calls Tryz.prog 62 #[.pointer (some ⟨b, 0, none⟩), .int .i64 i] w fun e w' => e = .returned (.tuple #[.string (bs (seen d i)), .int .i64 0]) ∧ w = w' := by
  have hr := dAt b sb mb lo d i w h
  have e0 : atOf d i = 0 := by unfold atOf; rw [hd, if_neg (by simp), if_neg (by omega)]
  rw [e0] at hr
  obtain ⟨p, c, c0, c1, c2, c3, c4, c5, h1, h2, h3⟩ := h.six
  obtain ⟨wv, n, o, os, hw, hm, _⟩ := h
  have hlook := hm.look i (by omega)
  have hcell : w.cell? ⟨sb, i, none⟩ = some (.string (bs d.stand[i])) := by
    rw [← scells_get d.stand i hi]
    exact os.cell i (by simp [scells]; exact hi)
  have hs : seen d i = (lastOf d.waits i).getD d.stand[i] := by
    unfold seen; rw [List.getD_eq_getElem?_getD, List.getElem?_eq_getElem hi]; rfl
  rw [hs]
  have hi' : (i : Int) < d.stand.length := by omega
  clear os hw hm o hs e0 hd
  generalize d.stand[i] = st at *
  generalize d.stand.length = n at *
  clear hi h1 h2
  cases hl : lastOf d.waits i with
  | none =>
    rw [hl] at hlook
    simp only [Option.getD_none, Option.isSome_none] at hlook ⊢
    go_enter Tryz.func62, Tryz.ntmps62
    go_wp2_with fail
    refine hr.mono ?_; rintro e w' ⟨rfl, rfl⟩
    go_wp2_with fail
    go_ret2
    exact ⟨rfl, rfl⟩
  | some t =>
    rw [hl] at hlook
    simp only [Option.getD_some, Option.isSome_some] at hlook ⊢
    go_enter Tryz.func62, Tryz.ntmps62
    go_wp2_with fail
    refine hr.mono ?_; rintro e w' ⟨rfl, rfl⟩
    go_wp2_with fail
    go_ret2
    exact ⟨rfl, rfl⟩
end Go.Proofs.YtdkimcnlhmhpgaaGreat

/- -/
namespace Go.Proofs.YtdkimcnlhmhpgaaGreat
open Go.RowKit Go.Maps
theorem dLen_nil (w : World) : Calls Tryz.prog 36 #[.pointer none] w fun e w' => e = .returned (.int .i64 0) ∧ w = w' := by
  go_enter Tryz.func36, Tryz.ntmps36
  go_wp2_with fail
  go_ret
  exact ⟨rfl, rfl⟩
theorem dLen (b sb mb lo : Nat) (d : DK) (w : World) (h : DiskAt w b sb mb lo d) : Calls Tryz.prog 36 #[.pointer (some ⟨b, 0, none⟩)] w fun e w' => e = .returned (.int .i64 d.stand.length) ∧ w = w' := by
  obtain ⟨p, c, c0, c1, c2, c3, c4, c5, h1, h2, h3⟩ := h.six
  clear h
  go_enter Tryz.func36, Tryz.ntmps36
  go_wp2_with fail
  go_ret
  exact ⟨rfl, rfl⟩
theorem dDown (b sb mb lo : Nat) (d : DK) (w : World) (h : DiskAt w b sb mb lo d) : Calls Tryz.prog 61 #[.pointer (some ⟨b, 0, none⟩)] w fun e w' => e = .returned (.bool d.down) ∧ w = w' := by
  obtain ⟨p, c, c0, c1, c2, c3, c4, c5, h1, h2, h3⟩ := h.six
  clear h
  go_enter Tryz.func61, Tryz.ntmps61
  go_wp2_with fail
  go_ret
  exact ⟨rfl, rfl⟩
def opD (d : DK) : DK := ⟨d.stand, d.waits, if 0 < d.fuse then d.fuse - 1 else d.fuse, d.ops + 1, if d.fuse = 0 then true else d.down⟩
theorem DiskAt.nums {w w' : World} {b sb mb lo : Nat} {d d' : DK} (h : DiskAt w b sb mb lo d) (k : Kept [b] w w') (hs : d'.stand = d.stand) (hw : d'.waits = d.waits) (hf : -1 ≤ d'.fuse) (hf2 : d'.fuse ≤ 9223372036854775807) (ho : d'.ops ≤ 100000)
    (hown : ∀ v0 v1 v2, Own w b #[v0, v1, v2, .int .i64 d.fuse, .int .i64 d.ops, .bool d.down] 138 → Own w' b #[v0, v1, v2, .int .i64 d'.fuse, .int .i64 d'.ops, .bool d'.down] 138) : DiskAt w' b sb mb lo d' := by
  obtain ⟨wv, n, o, os, hwr, hm, hn, h2, h3, h4, h5, h6, h7, h8, h9, h10, h11⟩ := h
  refine ⟨wv, n, ?_, ?_, ?_, ?_, by rw [hw]; exact hn, h2, h3, h4, h5, Nat.le_trans h6 k.size, by rw [hs]; exact h7, by rw [hs]; exact h8, hf, hf2, ho⟩
  · rw [hs]; exact hown _ _ _ o
  · rw [hs]; exact k.own os (by simp; omega)
  · rw [hw]; exact ownsRow_kept hwr k (by simp; omega)
  · rw [hw]; exact hm.kept k (by simp; omega)
set_option maxRecDepth 100000 in
theorem dOperate (b sb mb lo : Nat) (d : DK) (w : World) (h : DiskAt w b sb mb lo d) (ho : d.ops < 100000) : Calls Tryz.prog 90 #[.pointer (some ⟨b, 0, none⟩)] w fun e w' => e = .returned (.bool (decide (d.fuse = 0))) ∧ DiskAt w' b sb mb lo (opD d) ∧ Kept [b] w w' := by
  have hn := fun (d' : DK) (w' : World) (k : Kept [b] w w') => DiskAt.nums (d' := d') h k
  have HN := Lib.hid hn
  clear hn
  obtain ⟨wv, n, o, os, hw, hm, g1, g2, g3, g4, g5, g6, g7, g8, g9, g10, g11⟩ := h
  obtain ⟨p, c, rfl⟩ := own_shape hw
  obtain ⟨c0, c1, c2, c3, c4, c5⟩ := o.c6
  have z := o.z6
  clear os hw hm
  obtain ⟨st, wa, fu, op, dn⟩ := d
  simp only at *
  obtain ⟨q, hq⟩ : ∃ q, q = op + 1 := ⟨_, rfl⟩
  have hop : ((op : Int) + 1) = (q : Int) := by omega
  have HQ := Lib.hid hq
  have HO := Lib.hid ho
  clear hq g11
  have hop2 : (op : Int) ≤ 100000 := by omega
  rcases (by omega : fu = 0 ∨ fu = -1 ∨ 0 < fu) with rfl | rfl | hp
  · go_enter Tryz.func90, Tryz.ntmps90
    go_wp2_with fail
    go_ret
    have kk := ((Kept.refl [b] w).setCell (p := ⟨b, 4, none⟩) (Or.inl (by simp)) (.int .i64 q)).setCell (p := ⟨b, 5, none⟩) (Or.inl (by simp)) (.bool true)
    refine ⟨rfl, HN.out (opD ⟨st, wa, 0, op, dn⟩) _ kk rfl rfl (by show (-1 : Int) ≤ 0; omega) (by show (0 : Int) ≤ 9223372036854775807; omega) (by have := HO.out; show op + 1 ≤ _; omega) (fun v0 v1 v2 o => ?_), kk⟩
    show Own _ b #[v0, v1, v2, .int .i64 0, .int .i64 ((op + 1 : Nat) : Int), .bool true] _
    rw [← HQ.out]
    exact (o.set 4 _).set 5 _
  · go_enter Tryz.func90, Tryz.ntmps90
    go_wp2_with fail
    go_ret
    have kk := (Kept.refl [b] w).setCell (p := ⟨b, 4, none⟩) (Or.inl (by simp)) (.int .i64 q)
    refine ⟨rfl, HN.out (opD ⟨st, wa, -1, op, dn⟩) _ kk rfl rfl (by show (-1 : Int) ≤ -1; omega) (by show (-1 : Int) ≤ 9223372036854775807; omega) (by have := HO.out; show op + 1 ≤ _; omega) (fun v0 v1 v2 o => ?_), kk⟩
    show Own _ b #[v0, v1, v2, .int .i64 (-1), .int .i64 ((op + 1 : Nat) : Int), .bool dn] _
    rw [← HQ.out]
    exact o.set 4 _
  · have hne : (fu == 0) = false := by rw [beq_eq_false_iff_ne]; omega
    have hdc : decide (fu = 0) = false := decide_eq_false (by omega)
    rw [hdc]
    go_enter Tryz.func90, Tryz.ntmps90
    go_wp2_with fail
    go_ret
    have kk := ((Kept.refl [b] w).setCell (p := ⟨b, 4, none⟩) (Or.inl (by simp)) (.int .i64 q)).setCell (p := ⟨b, 3, none⟩) (Or.inl (by simp)) (.int .i64 (fu - 1))
    have ef : (opD ⟨st, wa, fu, op, dn⟩).fuse = fu - 1 := by show (if 0 < fu then fu - 1 else fu) = _; rw [if_pos hp]
    have ed : (opD ⟨st, wa, fu, op, dn⟩).down = dn := by show (if fu = 0 then true else dn) = _; rw [if_neg (by omega)]
    refine ⟨rfl, HN.out (opD ⟨st, wa, fu, op, dn⟩) _ kk rfl rfl (by rw [ef]; omega) (by rw [ef]; omega) (by have := HO.out; show op + 1 ≤ _; omega) (fun v0 v1 v2 o => ?_), kk⟩
    rw [ef, ed]
    show Own _ b #[v0, v1, v2, .int .i64 (fu - 1), .int .i64 ((op + 1 : Nat) : Int), .bool dn] _
    rw [← HQ.out]
    exact (o.set 4 _).set 3 _
end Go.Proofs.YtdkimcnlhmhpgaaGreat

/- -/
namespace Go.Proofs.YtdkimcnlhmhpgaaGreat
open Go.RowKit
theorem own_row_ne {w : World} {base : Nat} {e t : TypeId} {size n g : Nat} {v : Value} {xs : List Value} {cs : Array Value} (h : w.ownsRow base e size v n xs) (o : Own w g cs t) (hne : e ≠ t) : v.ownBlock ≠ some g := by
  rcases h.2 with ⟨rfl, _⟩ | ⟨g', cap, cur, rfl, _, hh, _⟩
  · simp [Value.ownBlock]
  · intro he
    have e1 : g' = g := by simpa [Value.ownBlock] using he
    subst e1
    have o' : w.heap[g']? = some (.cells cs t (0, 0)) := o
    rw [o'] at hh
    injection hh with hh
    injection hh with _ ht
    exact hne ht.symm
theorem own_grown {w w' : World} {base : Nat} {e t : TypeId} {size n g : Nat} {v : Value} {xs : List Value} {cs : Array Value} (h : w.ownsRow base e size v n xs) (hg : w.grownBy w' v.ownBlock) (o : Own w g cs t) (hne : e ≠ t) : Own w' g cs t :=
  Eq.trans (hg.block g o.lt (fun he => own_row_ne h o hne he.symm)) o
theorem ownsRow_other {w : World} {base : Nat} {e : TypeId} {size n : Nat} {v : Value} {xs : List Value} (h : w.ownsRow base e size v n xs) {p : Addr} (hp : v.ownBlock ≠ some p.block) (u : Value) : (w.setCell p u).ownsRow base e size v n xs := by
  obtain ⟨h1, h2⟩ := h
  refine ⟨h1, ?_⟩
  rcases h2 with h2 | ⟨g, cap, cur, rfl, hg, hh, r⟩
  · exact Or.inl h2
  · refine Or.inr ⟨g, cap, cur, rfl, hg, (Below.heap_setCell w p u g (fun e => hp (by simp [Value.ownBlock, e]))).trans hh, r⟩
end Go.Proofs.YtdkimcnlhmhpgaaGreat
