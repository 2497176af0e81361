/- -/
import Derived.Test.YtdkimcnlhmhpgaaGreatG07
import Derived.Test.YtdkimcnlhmhpgaaGreatG10
import Derived.Test.YtdkimcnlhmhpgaaGreatG16
import Derived.Test.YtdkimcnlhmhpgaaGreatG17
import Derived.Test.YtdkimcnlhmhpgaaGreatG26
import Derived.Test.YtdkimcnlhmhpgaaGreatG40
import Derived.Test.YtdkimcnlhmhpgaaGreatG41
import Derived.Test.YtdkimcnlhmhpgaaGreatG42
import Derived.Test.YtdkimcnlhmhpgaaGreatG44
import Derived.Deep.RegionHeld3
import Derived.BigQuiet
import Derived.IntWalk
set_option linter.unusedVariables false
set_option linter.unusedSimpArgs false
namespace Go.Proofs.YtdkimcnlhmhpgaaGreat
open Go.RowKit
set_option maxRecDepth 100000 in
theorem utell0 {T : List Nat} {w : World} {B b sb mb lo : Nat} {v : VS} (h : VolAt T w B b sb mb lo v) (c : Int) : Calls Tryz.prog 51 #[.pointer (some ⟨B, 0, none⟩), .int .i64 c] w fun e w' => e = .returned (.int .i64 c) ∧ VolAt T w' B b sb mb lo (tellX (v, c)).1 ∧ Kept [B] w w' := by
  have HS : Hid (∀ x, x = (v.dead || c == 90) → VolAt T (w.setCell ⟨B, 12, none⟩ (.bool x)) B b sb mb lo (tellX (v, c)).1) := Lib.hid (by
    rintro x rfl
    obtain ⟨sv, vb, vm, vn, o, hr, hcat⟩ := h.vol
    exact h.setV ((Kept.refl [B] w).setCell (p := ⟨B, 12, none⟩) (Or.inl (by simp)) _) (o.s12 _) hr hcat)
  obtain ⟨sv, vb, vm, vn, o, _, _⟩ := h.vol
  obtain ⟨x0, x1, x2, x3, x4, x5, x6, x7, x8, x9, x10, x11, x12⟩ := o.c13
  have z12 := o.free 12
  clear h o x0 x1 x2 x3 x4 x5 x6 x7 x8 x9 x10 x11
  generalize hb90 : (c == 90) = q at *
  generalize tellX (v, c) = R at *
  generalize v.dead = dd at *
  have k1 : Kept [B] w (w.setCell ⟨B, 12, none⟩ (.bool (dd || q))) := (Kept.refl [B] w).setCell (p := ⟨B, 12, none⟩) (Or.inl (by simp)) _
  have K1 := Lib.hid k1
  clear k1
  cases dd <;> cases q
  all_goals
    go_enter Tryz.func51, Tryz.ntmps51
    go_wp2_with fail
    go_ret
    exact ⟨rfl, HS.out _ rfl, K1.out⟩
theorem uallA {w0 W : World} {B b sb mb lo gv gr : Nat} {v : VS} {l : List VC} {recs : List JRec} {qs : List SQ} (h : StepsCtx w0 W B b sb mb lo gv gr v l recs qs) (c : JCat) (cb cm cn : Value) (s : List UInt8) (gv2 gt gc : Nat) (rv : Value)
    (hrow : W.ownsRow w0.heap.size 42 1 rv (qs.length + 2) ((qs.map (sqU gv gr)).map fnV ++ [.func (.func 39) #[.pointer (some ⟨b, 0, none⟩)] #[], .func (.func 107) #[] #[.pointer (some ⟨gv2, 0, none⟩), .pointer (some ⟨gt, 0, none⟩), .pointer (some ⟨gc, 0, none⟩)]]))
    (hv2 : w0.heap.size ≤ gv2) (ht : w0.heap.size ≤ gt) (hc : w0.heap.size ≤ gc) (ov : Own W gv2 #[.pointer (some ⟨B, 0, none⟩)] 27) (ot : Own W gt #[.string (bs s)] 9) (oc : Own W gc #[.int .u32 c.nextBox, .int .u32 c.nextMan, cb, cm, cn] 52)
    (hcat : CatO [B] W b sb mb (.agg #[.int .u32 c.nextBox, .int .u32 c.nextMan, cb, cm, cn]) c) (hm : v.s.may) (hq : v.s.seq ≤ 1000000) (hs : s.length ≤ 4000) (ho : v.d.ops ≤ 35000) (hw : v.d.waits.length ≤ 700) (hn : v.d.stand.length ≤ 100) (hn1 : 1 ≤ v.d.stand.length) (hl8 : l.length ≤ 8) :
    Calls Tryz.prog 37 #[rv] W fun e w' => e = .returned (.int .i64 (chainV (putsX l recs ++ [onD stepF, appendX c s]) v).2) ∧ VolAt [B] w' B b sb mb lo (chainV (putsX l recs ++ [onD stepF, appendX c s]) v).1 ∧ PK [B] b sb mb W w' := by
  refine uallG h [stepF] (appendX c s) [(39, #[.pointer (some ⟨b, 0, none⟩)], #[]), (107, #[], #[.pointer (some ⟨gv2, 0, none⟩), .pointer (some ⟨gt, 0, none⟩), .pointer (some ⟨gc, 0, none⟩)])] rfl (by simp) (fun u hu => ?_) rv (by rw [List.map_append]; exact hrow) (fun f hf e he => ?_) ho hw hn hl8 (fun j hj W' D hV k hF => ?_)
  · simp only [List.mem_cons, List.not_mem_nil, or_false] at hu
    rcases hu with rfl | rfl
    · exact enters_of Tryz.func39 (by kernel_rfl) rfl
    · exact enters_of Tryz.func107 (by kernel_rfl) rfl
  · obtain rfl := List.mem_singleton.1 hf
    exact (fw_stepF e).mono hn1
  · have hFo := hF.ops
    have hFw := hF.waits
    match j, hj with
    | 0, _ =>
      have := uflush (T := []) hV.da (by show D.ops < _; omega) (by show D.waits.length ≤ _; omega)
      exact this.mono fun e w' ⟨a1, a2, a3⟩ => ⟨a1, hV.pk a3 a2 (fun x hx => by cases hx) (by simp), a3.mono (by simp)⟩
    | 1, _ =>
      have := uappend1 gv2 gt gc c cb cm cn s hV (fun W'' k2 => by
        have kk := k.trans k2
        obtain ⟨d0, d1, d2, d3, d4⟩ := (kk.own oc (h.off hc)).k5
        exact ⟨(kk.own ov (h.off hv2)).cell 0 (by simp), (kk.own ot (h.off ht)).cell 0 (by simp), d0, d1, d2, d3, d4⟩) (hcat.pk k) hm hq hs (by show D.ops ≤ _; omega) (by show D.waits.length ≤ _; omega)
      exact this
theorem uallS {w0 W : World} {B b sb mb lo gv gr : Nat} {v : VS} {l : List VC} {recs : List JRec} {qs : List SQ} (h : StepsCtx w0 W B b sb mb lo gv gr v l recs qs) (c : JCat) (cb cm cn : Value) (s : List UInt8) (R : List (Int × Int)) (ru : Value) (gv2 gt gr2 gc : Nat) (rv : Value)
    (hrow : W.ownsRow w0.heap.size 42 1 rv (qs.length + 1) ((qs.map (sqU gv gr)).map fnV ++ [.func (.func 113) #[] #[.pointer (some ⟨gv2, 0, none⟩), .pointer (some ⟨gt, 0, none⟩), .pointer (some ⟨gr2, 0, none⟩), .pointer (some ⟨gc, 0, none⟩)]]))
    (hv2 : w0.heap.size ≤ gv2) (ht : w0.heap.size ≤ gt) (hr2 : w0.heap.size ≤ gr2) (hc : w0.heap.size ≤ gc) (ov : Own W gv2 #[.pointer (some ⟨B, 0, none⟩)] 27) (ot : Own W gt #[.string (bs s)] 9) (or2 : Own W gr2 #[ru] 56) (oc : Own W gc #[.int .u32 c.nextBox, .int .u32 c.nextMan, cb, cm, cn] 52)
    (hcat : CatO [B] W b sb mb (.agg #[.int .u32 c.nextBox, .int .u32 c.nextMan, cb, cm, cn]) c) (hrun : RunsO [B] W b sb mb ru R) (hpl : Pl 0 R) (hmb : (baseS v.s s.length R).may) (hm : v.s.may) (hq : v.s.seq ≤ 1000000) (hs : s.length ≤ 1048576) (ho : v.d.ops ≤ 35000) (hw : v.d.waits.length ≤ 700) (hn : v.d.stand.length ≤ 100) (hl8 : l.length ≤ 8) :
    Calls Tryz.prog 37 #[rv] W fun e w' => e = .returned (.int .i64 (chainV (putsX l recs ++ [settleX c s R]) v).2) ∧ VolAt [B] w' B b sb mb lo (chainV (putsX l recs ++ [settleX c s R]) v).1 ∧ PK [B] b sb mb W w' := by
  refine uallG h [] (settleX c s R) [(113, #[], #[.pointer (some ⟨gv2, 0, none⟩), .pointer (some ⟨gt, 0, none⟩), .pointer (some ⟨gr2, 0, none⟩), .pointer (some ⟨gc, 0, none⟩)])] rfl (by simp) (fun u hu => ?_) rv (by rw [List.map_append]; exact hrow) (fun f hf e he => by cases hf) ho hw hn hl8 (fun j hj W' D hV k hF => ?_)
  · obtain rfl := List.mem_singleton.1 hu
    exact enters_of Tryz.func113 (by kernel_rfl) rfl
  · have hFo := hF.ops
    have hFw := hF.waits
    have hFl := hF.len
    match j, hj with
    | 0, _ =>
      have := usettle1 gv2 gt gr2 gc c cb cm cn s ru R hV (fun W'' k2 => by
        have kk := k.trans k2
        obtain ⟨d0, d1, d2, d3, d4⟩ := (kk.own oc (h.off hc)).k5
        exact ⟨(kk.own ov (h.off hv2)).cell 0 (by simp), (kk.own ot (h.off ht)).cell 0 (by simp), (kk.own or2 (h.off hr2)).cell 0 (by simp), d0, d1, d2, d3, d4⟩) (hcat.pk k) (hrun.pk k) hpl hmb hm hq hs (by show D.ops ≤ _; omega) (by show D.waits.length ≤ _; omega) (by show D.stand.length ≤ _; omega)
      exact this
def OkN (kk next : Int) (l : List JItem) (k : Nat) : Prop := ∀ j (hj : j < l.length), j < k → mayR (l[j].told kk) = true ∧ l[j].id < next ∧ ∀ (h : 0 < j), (l[j - 1]'(by omega)).id < l[j].id
theorem OkN.zero (kk next : Int) (l : List JItem) : OkN kk next l 0 := fun j hj h => absurd h (Nat.not_lt_zero j)
theorem OkN.step {kk next : Int} {l : List JItem} {k : Nat} (h : OkN kk next l k) (hk : k < l.length) (h1 : mayR (l[k].told kk) = true) (h2 : l[k].id < next) (h3 : ∀ (h : 0 < k), (l[k - 1]'(by omega)).id < l[k].id) : OkN kk next l (k + 1) := fun j hj hjk => by
  by_cases e : j = k
  · subst e; exact ⟨h1, h2, h3⟩
  · exact h j hj (by omega)
theorem OkN.all {kk next : Int} {l : List JItem} (h : OkN kk next l l.length) : (∀ a ∈ l, mayR (a.told kk) = true) ∧ (∀ a ∈ l, a.id < next) ∧ Rise l := by
  refine ⟨fun a ha => ?_, fun a ha => ?_, rise_step (fun k hk => ?_)⟩
  · obtain ⟨j, hj, rfl⟩ := List.mem_iff_getElem.1 ha; exact (h j hj hj).1
  · obtain ⟨j, hj, rfl⟩ := List.mem_iff_getElem.1 ha; exact (h j hj hj).2.1
  · rw [ltI_iff]; exact Or.inl ((h (k + 1) hk hk).2.2 (by omega))
def OkM (l : List JItem) (k : Nat) : Prop := ∀ j (hj : j < l.length), j < k → mayR (l[j].told 3) = true ∧ ∀ (h : 0 < j), ltN (l[j - 1]'(by omega)).name l[j].name = true
theorem OkM.zero (l : List JItem) : OkM l 0 := fun j hj h => absurd h (Nat.not_lt_zero j)
theorem OkM.step {l : List JItem} {k : Nat} (h : OkM l k) (hk : k < l.length) (h1 : mayR (l[k].told 3) = true) (h3 : ∀ (h : 0 < k), ltN (l[k - 1]'(by omega)).name l[k].name = true) : OkM l (k + 1) := fun j hj hjk => by
  by_cases e : j = k
  · subst e; exact ⟨h1, h3⟩
  · exact h j hj (by omega)
theorem OkM.all {l : List JItem} (h : OkM l l.length) : (∀ a ∈ l, mayR (a.told 3) = true) ∧ Rise l := by
  refine ⟨fun a ha => ?_, rise_step (fun k hk => ?_)⟩
  · obtain ⟨j, hj, rfl⟩ := List.mem_iff_getElem.1 ha; exact (h j hj hj).1
  · have h0 := (mayR_name (h k (by omega) (by omega)).1).1
    have h1 := (mayR_name (h (k + 1) hk hk).1).1
    rw [ltI_iff]; exact Or.inr ⟨by rw [h0, h1], (h (k + 1) hk hk).2 (by omega)⟩
theorem CatOff.more {S T : Nat → Prop} {w : World} {v : Value} {c : JCat} (h : CatOff S w v c) (hT : ∀ x, T x → w.heap.size ≤ x) : CatOff (fun x => S x ∨ T x) w v c := by
  obtain ⟨a, b, d, e, h1, h2, h3, h4⟩ := h
  exact ⟨a, b, d, e, h1.more hT, h2.more hT, h3.more hT, h4⟩
end Go.Proofs.YtdkimcnlhmhpgaaGreat
