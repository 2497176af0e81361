/- -/
import Derived.Test.YtdkimcnlhmhpgaaGreatH21
import Derived.Test.YtdkimcnlhmhpgaaGreatH23
set_option linter.unusedVariables false
set_option linter.unusedSimpArgs false
namespace Go.Proofs.YtdkimcnlhmhpgaaGreat
open Go.RowKit
def IdxZSays (p : JItem → Bool) (l : List JItem) (w : World) (e : Ending) (w' : World) : Prop := ((∃ i, ∃ h : i < l.length, p l[i] = true ∧ (∀ j (hj : j < l.length), j < i → p l[j] = false) ∧ e = .returned (.int .i64 i)) ∨ ((∀ j (hj : j < l.length), p l[j] = false) ∧ e = .returned (.int .i64 (-1)))) ∧ Kept [] w w'
set_option maxRecDepth 100000 in
set_option maxHeartbeats 2000000 in
theorem zindex_bad (p : JItem → Bool) (cv : Value) (v : Value) (l : List JItem) (w : World) (h : ItemsIn w v l) (hl : l.length ≤ 1000000)
  (hp : ∀ W, Kept [] w W → ∀ i (hi : i < l.length) kv, ItemOk W (l[i], kv) → Calls Tryz.prog 230 #[.agg (l[i].cells kv), cv] W fun e w' => e = .returned (.bool (p l[i])) ∧ Kept [] W w') :
  Calls Tryz.prog 187 #[v, .func (.func 230) #[] #[cv]] w (IdxZSays p l w) := by
 obtain ⟨pa, ca, rfl⟩ := h.shape
 have H := Lib.hid h
 have HP := Lib.hid hp
 have hl' : (l.length : Int) ≤ 1000000 := by omega
 clear h hp
 go_enter Tryz.func187, Tryz.ntmps187
 go_wp2_with fail
 go_loopw [8] (fun i wr => ∃ k : Nat, k ≤ l.length ∧ i = .int .i64 k ∧ (∀ j (hj : j < l.length), j < k → p l[j] = false) ∧ Kept [] w wr) (fun i _ => l.length - (intOf i).toNat)
 case atStart => exact ⟨0, Nat.zero_le _, rfl, fun j hj h => absurd h (Nat.not_lt_zero j), Kept.refl _ _⟩
 case round =>
  obtain ⟨k, hk, rfl, hno, hK⟩ := hrel
  by_cases hlt : k < l.length
  ·obtain ⟨b, off, kv, rfl, hia, hb, hc1, hc2, HA⟩ := H.out.at4 k hlt
   have hcl := HP.out wr hK k hlt kv (hia.kept0 hK)
   obtain ⟨x0, x1, x2, x3⟩ := HA wr hK
   obtain ⟨R, hR⟩ : ∃ R, p (l[k]'hlt) = R := ⟨_, rfl⟩
   rw [hR] at hcl
   unfold JItem.cells at hcl
   have i1 : (k : Int) < l.length := by omega
   have HCL := Lib.hid hcl
   have HRR := Lib.hid hR
   have HNO := Lib.hid hno
   have HKK := Lib.hid hK
   have HLT := Lib.hid hlt
   clear hia hcl hR hno HA hb
   generalize hLA : l[k]'hlt = A at x0 x1 x2 x3 HCL
   clear hLA
   go_wp2_with fail
   refine HCL.out.mono ?_; rintro e w2 ⟨rfl, k2⟩
   have KK := Lib.hid (HKK.out.trans k2)
   cases R with
   | true =>
    go_wp2_with fail
    go_ret
    exact ⟨Or.inl ⟨k, HLT.out, HRR.out, HNO.out, rfl⟩, KK.out⟩
   | false =>
    go_wp2_with fail
    go_roundw
    case rel => exact ⟨k + 1, HLT.out, by go_num, fun j hj hjk => by
     by_cases e : j = k
     ·subst e; exact HRR.out
     ·exact HNO.out j hj (by omega), KK.out⟩
    case measure => (have h := HLT.out; simp [intOf]; omega)
  ·obtain rfl : k = l.length := by omega
   have HNO := Lib.hid hno
   clear hno
   go_wp2_with fail
   go_ret
   exact ⟨Or.inr ⟨fun j hj => HNO.out j hj hj, rfl⟩, hK⟩
set_option maxRecDepth 100000 in
theorem zbad (k : Int) (kb : Nat) (x : JItem) (xv : Value) (w : World) (hk : w.cell? ⟨kb, 0, none⟩ = some (.int .i64 k)) (hx : ItemOk w (x, xv)) (hl : x.runs.length ≤ 1000000) (hkw : (Lit.int .i64 k).wf = true) :
  Calls Tryz.prog 230 #[.agg (x.cells xv), .pointer (some ⟨kb, 0, none⟩)] w fun e w' => e = .returned (.bool (!mayR (x.told k))) ∧ Kept [] w w' := by
 have ht := fun W => ztold k x xv W hx.slv
 have hc := fun W (q : Kept [] w W) => jcheck (x.told k) xv _ _ W (hx.1.kept0 q) hl (JItem.told_fits hx.2.1 hkw)
 unfold JCheck at hc
 obtain ⟨p, n, c, rfl⟩ := hx.slv
 obtain ⟨M, hM⟩ : ∃ M, mayR (x.told k) = M := ⟨_, rfl⟩
 rw [hM]
 simp only [hM] at hc
 have oX := Own.new w (x.cells (.slice p n c)) 113
 have k0 : Kept [] w (w.alloc (.cells (x.cells (.slice p n c)) 113)) := (Kept.refl _ _).alloc _
 have hkb : kb < w.heap.size := World.block_lt_of_cell? _ _ hk
 have c0 : (w.alloc (.cells (x.cells (.slice p n c)) 113)).cell? ⟨kb, 0, none⟩ = some (.int .i64 k) := Lib.cell?_alloc_some _ hk
 unfold JItem.told JRec.cells at hc ht
 unfold JItem.cells at oX k0 c0 ht ⊢
 obtain ⟨x0, x1, x2, x3⟩ := oX.c4
 have K0 := Lib.hid k0
 have HC := Lib.hid hc
 have HT := Lib.hid ht
 clear oX k0 hc ht hM hkb hk hx
 go_enter Tryz.func230, Tryz.ntmps230
 go_wp2_with fail
 refine (HT.out _).mono ?_; rintro e w2 ⟨rfl, k2⟩
 have K2 := Lib.hid (K0.out.trans k2)
 go_wp2_with fail
 refine (HC.out _ K2.out).mono ?_; rintro e w3 ⟨rfl, k3⟩
 have K3 := Lib.hid (K2.out.trans k3)
 cases M
 ·go_wp2_with fail
  go_ret
  exact ⟨rfl, K3.out⟩
 ·go_wp2_with fail
  go_ret
  exact ⟨rfl, K3.out⟩
set_option maxRecDepth 100000 in
theorem zcontains (p : JItem → Bool) (cv : Value) (v : Value) (l : List JItem) (w : World) (h : ItemsIn w v l) (hl : l.length ≤ 1000000)
  (hp : ∀ W, Kept [] w W → ∀ i (hi : i < l.length) kv, ItemOk W (l[i], kv) → Calls Tryz.prog 230 #[.agg (l[i].cells kv), cv] W fun e w' => e = .returned (.bool (p l[i])) ∧ Kept [] W w') :
  Calls Tryz.prog 231 #[v, .func (.func 230) #[] #[cv]] w (EqSays (∃ a ∈ l, p a = true) w) := by
 have hi := zindex_bad p cv v l w h hl hp
 unfold IdxZSays at hi
 obtain ⟨pa, ca, rfl⟩ := h.shape
 have HI := Lib.hid hi
 clear hi h hp hl
 go_enter Tryz.func231, Tryz.ntmps231
 go_wp2_with fail
 refine HI.out.mono ?_; rintro e w2 ⟨⟨i, hi, h1, h2, rfl⟩ | ⟨h2, rfl⟩, k2⟩
 ·have hx : ∃ a ∈ l, p a = true := ⟨_, List.getElem_mem hi, h1⟩
  have HX := Lib.hid hx
  have i1 : (0 : Int) ≤ (i : Int) := by omega
  clear hx h1 h2 hi
  go_wp2_with fail
  go_ret
  exact eqSays_yes HX.out k2
 ·have hx : ¬ ∃ a ∈ l, p a = true := by
   rintro ⟨a, ha, hpa⟩
   obtain ⟨j, hj, rfl⟩ := List.mem_iff_getElem.1 ha
   rw [h2 j hj] at hpa; cases hpa
  have HX := Lib.hid hx
  clear hx h2
  go_wp2_with fail
  go_ret
  exact eqSays_no HX.out k2
set_option maxRecDepth 100000 in
set_option maxHeartbeats 2000000 in
theorem zlisted (k : Int) (v : Value) (l : List JItem) (most : Nat) (w : World) (h : ItemsIn w v l) (hl : SmallL l) (hkw : (Lit.int .i64 k).wf = true) (hm : most ≤ 1000000) :
  Calls Tryz.prog 167 #[.int .i64 k, v, .int .i64 most] w (EqSays (mayL k l most) w) := by
 have o0 := Own.new w #[.int .i64 k] 31
 have k0 : Kept [] w (w.alloc (.cells #[.int .i64 k] 31)) := (Kept.refl _ _).alloc _
 have c0 := o0.cell 0 (by simp)
 have hco := zcontains (fun x => !mayR (x.told k)) (.pointer (some ⟨w.heap.size, 0, none⟩)) v l _ (h.kept0 k0) hl.1 (fun W q i hi kv hx => zbad k w.heap.size _ kv W ((q.cell (by exact o0.lt) (by simp)).trans c0) hx (hl.2 _ (List.getElem_mem hi)) hkw)
 have hri := fun W (q : Kept [] w W) => zrise v l W (h.kept0 q) hl.1
 unfold EqSays at hco
 unfold RiseSays at hri
 obtain ⟨pa, ca, rfl⟩ := h.shape
 have j1 : (l.length : Int) ≤ 1000000 := by have := hl.1; omega
 have HC := Lib.hid hco
 have HR := Lib.hid hri
 have K0 := Lib.hid k0
 simp only [List.getElem_toArray, List.getElem_cons_zero] at c0
 clear hco hri k0 o0 h hl
 by_cases hlen : l.length ≤ most
 ·have i1 : (l.length : Int) ≤ most := by omega
  go_enter Tryz.func167, Tryz.ntmps167
  go_wp2_with fail
  refine HC.out.mono ?_; rintro e w2 ⟨b, rfl, hb, k2⟩
  have K2 := Lib.hid (K0.out.trans k2)
  have HB := Lib.hid hb
  clear hb
  cases b with
  | true =>
   go_wp2_with fail
   go_ret
   exact eqSays_no (fun hml => by
    obtain ⟨a, ha, hna⟩ := HB.out.1 (by simp)
    rw [hml.2.1 a ha] at hna; cases hna) K2.out
  | false =>
   go_wp2_with fail
   refine (HR.out _ K2.out).mono ?_; rintro e w3 ⟨q, rfl, hq, k3⟩
   have K3 := Lib.hid (K2.out.trans k3)
   have HQ := Lib.hid hq
   clear hq
   go_wp2_with fail
   go_ret
   refine ⟨q, rfl, ⟨fun hq1 => ⟨hlen, fun a ha => ?_, HQ.out.1 hq1⟩, fun hml => HQ.out.2 hml.2.2⟩, K3.out⟩
   cases g : mayR (a.told k)
   ·have := HB.out.2 ⟨a, ha, by simp [g]⟩
    cases this
   ·rfl
 ·have i1 : ¬ (l.length : Int) ≤ most := by omega
  go_enter Tryz.func167, Tryz.ntmps167
  go_wp2_with fail
  go_ret
  exact eqSays_no (fun hml => hlen hml.1) K0.out
set_option maxRecDepth 100000 in
set_option maxHeartbeats 2000000 in
theorem zabove (next : Int) (v : Value) (l : List JItem) (w : World) (h : ItemsIn w v l) (hr : Rise l) (hl : l.length ≤ 1000000) :
  Calls Tryz.prog 168 #[.int .u32 next, v] w (EqSays (aboveX next l) w) := by
 obtain ⟨p, c, rfl⟩ := h.shape
 have hq := above_last (next := next) (k := 0) hr
 have HQ := Lib.hid hq
 have j1 : (l.length : Int) ≤ 1000000 := by omega
 clear hq hr
 by_cases h1 : 1 ≤ next
 ·by_cases h0 : l.length = 0
  ·have i0 : (l.length : Int) = 0 := by omega
   have hy : aboveX next l := HQ.out.2 ⟨h1, Or.inl h0⟩
   have HY := Lib.hid hy
   rw [h0]
   clear hy h h0 i0 j1 hl
   go_enter Tryz.func168, Tryz.ntmps168
   go_wp2_with fail
   go_ret
   exact eqSays_yes HY.out (Kept.refl _ _)
  ·have i0 : ¬ (l.length : Int) = 0 := by omega
   have hne : ¬ l = [] := fun e => h0 (by rw [e]; rfl)
   have hb0 : ((l.length : Int) == 0) = false := by simpa using hne
   obtain ⟨m, hm⟩ : ∃ m, l.length - 1 = m := ⟨_, rfl⟩
   have hm' : m < l.length := by omega
   have e1 : (l.length : Int) - 1 = (m : Int) := by omega
   have w1 : IntKind.i64.wrap (m : Int) = (m : Int) := by rw [IntKind.wrap_i64]; omega
   have i1 : (m : Int) < l.length := by omega
   have i2 : (0 : Int) ≤ m := by omega
   obtain ⟨b, off, kv, rfl, _, hb, hc1, hc2, HA⟩ := h.at4 m hm'
   obtain ⟨x0, x1, x2, x3⟩ := HA w (Kept.refl _ _)
   have hq2 : aboveX next l ↔ (l[m]'hm').id < next := by
    rw [HQ.out]
    subst hm
    constructor
    ·rintro ⟨_, h | ⟨_, h⟩⟩
     ·exact absurd h h0
     ·exact h
    ·intro h; exact ⟨h1, Or.inr ⟨hm', h⟩⟩
   have HQ2 := Lib.hid hq2
   clear hq2 HQ hm h0 HA h
   generalize l[m]'hm' = A at *
   by_cases hlt : A.id < next
   ·go_enter Tryz.func168, Tryz.ntmps168
    go_wp2_with fail
    go_ret
    exact eqSays_yes (HQ2.out.2 hlt) (Kept.refl _ _)
   ·have HLT := Lib.hid hlt
    go_enter Tryz.func168, Tryz.ntmps168
    go_wp2_with fail
    go_ret
    exact eqSays_no (fun q => absurd (HQ2.out.1 q) (by have := HLT.out; omega)) (Kept.refl _ _)
 ·have H1 := Lib.hid h1
  go_enter Tryz.func168, Tryz.ntmps168
  go_wp2_with fail
  go_ret
  exact eqSays_no (fun q => absurd q.1 (by have := H1.out; omega)) (Kept.refl _ _)
open Classical in
noncomputable def chkX (c : JCat) : Int := if mayC c then 0 else 110
def ChkSays (c : JCat) (w : World) (e : Ending) (w' : World) : Prop := e = .returned (.int .i64 (chkX c)) ∧ Kept [] w w'
theorem chkSays_no {c : JCat} (h : ¬ mayC c) {w w' : World} (k : Kept [] w w') : ChkSays c w (.returned (.int .i64 110)) w' := by
 unfold ChkSays chkX; rw [if_neg h]; exact ⟨rfl, k⟩
theorem chkSays_yes {c : JCat} (h : mayC c) {w w' : World} (k : Kept [] w w') : ChkSays c w (.returned (.int .i64 0)) w' := by
 unfold ChkSays chkX; rw [if_pos h]; exact ⟨rfl, k⟩
set_option maxRecDepth 100000 in
set_option maxHeartbeats 4000000 in
theorem zcheck (v : Value) (c : JCat) (w : World) (h : CatIn w v c) (hl : SmallC c) :
  Calls Tryz.prog 97 #[v] w (ChkSays c w) := by
 obtain ⟨vb, vm, vn, rfl, hb, hm, hn, _⟩ := h
 have HB : Hid (∀ W, Kept [] w W → Calls Tryz.prog 167 #[.int .i64 1, vb, .int .i64 2048] W (EqSays (mayL 1 c.boxes 2048) W)) := Lib.hid (fun W q => zlisted 1 vb _ 2048 W (hb.kept0 q) hl.1 (by decide) (by decide))
 have HM : Hid (∀ W, Kept [] w W → Calls Tryz.prog 167 #[.int .i64 2, vm, .int .i64 2048] W (EqSays (mayL 2 c.mans 2048) W)) := Lib.hid (fun W q => zlisted 2 vm _ 2048 W (hm.kept0 q) hl.2.1 (by decide) (by decide))
 have HN : Hid (∀ W, Kept [] w W → Calls Tryz.prog 167 #[.int .i64 3, vn, .int .i64 256] W (EqSays (mayL 3 c.names 256) W)) := Lib.hid (fun W q => zlisted 3 vn _ 256 W (hn.kept0 q) hl.2.2 (by decide) (by decide))
 have HAB : Hid (∀ W, Kept [] w W → mayL 1 c.boxes 2048 → Calls Tryz.prog 168 #[.int .u32 c.nextBox, vb] W (EqSays (aboveX c.nextBox c.boxes) W)) := Lib.hid (fun W q hr => zabove _ vb _ W (hb.kept0 q) hr.2.2 hl.1.1)
 have HAM : Hid (∀ W, Kept [] w W → mayL 2 c.mans 2048 → Calls Tryz.prog 168 #[.int .u32 c.nextMan, vm] W (EqSays (aboveX c.nextMan c.mans) W)) := Lib.hid (fun W q hr => zabove _ vm _ W (hm.kept0 q) hr.2.2 hl.2.1.1)
 obtain ⟨p1, c1, rfl⟩ := hb.shape
 obtain ⟨p2, c2, rfl⟩ := hm.shape
 obtain ⟨p3, c3, rfl⟩ := hn.shape
 unfold EqSays at HB HM HN HAB HAM
 clear hb hm hn hl
 generalize c.boxes.length = l1 at *
 generalize c.mans.length = l2 at *
 generalize c.names.length = l3 at *
 generalize hnb : c.nextBox = nb at *
 generalize hnm : c.nextMan = nm at *
 have HNB := Lib.hid hnb
 have HNM := Lib.hid hnm
 have oA := Own.new w #[.int .u32 nb, .int .u32 nm, .slice p1 l1 c1, .slice p2 l2 c2, .slice p3 l3 c3] 52
 have k0 : Kept [] w (w.alloc (.cells #[.int .u32 nb, .int .u32 nm, .slice p1 l1 c1, .slice p2 l2 c2, .slice p3 l3 c3] 52)) := (Kept.refl [] w).alloc _
 have K0 := Lib.hid k0
 obtain ⟨x0, x1, x2, x3, x4⟩ := oA.k5
 have OA := Lib.hid oA
 clear k0 oA hnb hnm
 go_enter Tryz.func97, Tryz.ntmps97
 go_wp2_with fail
 refine (HB.out _ K0.out).mono ?_; rintro e w2 ⟨r1, rfl, e1, k2⟩
 have K2 := Lib.hid (K0.out.trans k2)
 have E1 := Lib.hid e1
 have oA2 := k2.own OA.out (by simp)
 obtain ⟨x0, x1, x2, x3, x4⟩ := oA2.k5
 have OA2 := Lib.hid oA2
 clear e1 oA2
 cases r1 with
 | false =>
  go_wp2_with fail
  go_ret
  exact chkSays_no (fun q => by have := E1.out.2 q.boxes; cases this) K2.out
 | true =>
  have G1 := Lib.hid (E1.out.1 rfl)
  go_wp2_with fail
  refine (HAB.out _ K2.out G1.out).mono ?_; rintro e w3 ⟨r2, rfl, e2, k3⟩
  have K3 := Lib.hid (K2.out.trans k3)
  have E2 := Lib.hid e2
  have oA3 := k3.own OA2.out (by simp)
  obtain ⟨x0, x1, x2, x3, x4⟩ := oA3.k5
  have OA3 := Lib.hid oA3
  clear e2 oA3
  cases r2 with
  | false =>
   go_wp2_with fail
   go_ret
   exact chkSays_no (fun q => by have := E2.out.2 (by rw [← HNB.out]; exact q.nb); cases this) K3.out
  | true =>
   have G2 := Lib.hid (E2.out.1 rfl)
   go_wp2_with fail
   refine (HM.out _ K3.out).mono ?_; rintro e w4 ⟨r3, rfl, e3, k4⟩
   have K4 := Lib.hid (K3.out.trans k4)
   have E3 := Lib.hid e3
   have oA4 := k4.own OA3.out (by simp)
   obtain ⟨x0, x1, x2, x3, x4⟩ := oA4.k5
   have OA4 := Lib.hid oA4
   clear e3 oA4
   cases r3 with
   | false =>
    go_wp2_with fail
    go_ret
    exact chkSays_no (fun q => by have := E3.out.2 q.mans; cases this) K4.out
   | true =>
    have G3 := Lib.hid (E3.out.1 rfl)
    go_wp2_with fail
    refine (HAM.out _ K4.out G3.out).mono ?_; rintro e w5 ⟨r4, rfl, e4, k5⟩
    have K5 := Lib.hid (K4.out.trans k5)
    have E4 := Lib.hid e4
    have oA5 := k5.own OA4.out (by simp)
    obtain ⟨x0, x1, x2, x3, x4⟩ := oA5.k5
    clear e4 oA5
    cases r4 with
    | false =>
     go_wp2_with fail
     go_ret
     exact chkSays_no (fun q => by have := E4.out.2 (by rw [← HNM.out]; exact q.nm); cases this) K5.out
    | true =>
     have G4 := Lib.hid (E4.out.1 rfl)
     go_wp2_with fail
     refine (HN.out _ K5.out).mono ?_; rintro e w6 ⟨r5, rfl, e5, k6⟩
     have K6 := Lib.hid (K5.out.trans k6)
     have E5 := Lib.hid e5
     clear e5
     cases r5 with
     | false =>
      go_wp2_with fail
      go_ret
      exact chkSays_no (fun q => by have := E5.out.2 q.names; cases this) K6.out
     | true =>
      have G5 := Lib.hid (E5.out.1 rfl)
      go_wp2_with fail
      go_ret
      exact chkSays_yes ⟨G1.out, by rw [HNB.out]; exact G2.out, G3.out, by rw [HNM.out]; exact G4.out, G5.out⟩ K6.out
end Go.Proofs.YtdkimcnlhmhpgaaGreat
