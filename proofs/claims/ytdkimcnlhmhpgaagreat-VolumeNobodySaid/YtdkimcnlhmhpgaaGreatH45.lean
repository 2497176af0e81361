/- -/
import Derived.Test.YtdkimcnlhmhpgaaGreatH04
import Derived.Test.YtdkimcnlhmhpgaaGreatH05
import Derived.Test.YtdkimcnlhmhpgaaGreatH10
import Derived.Test.YtdkimcnlhmhpgaaGreatH11
import Derived.Test.YtdkimcnlhmhpgaaGreatH14
import Derived.Test.YtdkimcnlhmhpgaaGreatH16
import Derived.Test.YtdkimcnlhmhpgaaGreatH26
import Derived.Test.YtdkimcnlhmhpgaaGreatH35
import Derived.Test.YtdkimcnlhmhpgaaGreatH41
import Derived.Test.YtdkimcnlhmhpgaaGreatH42
import Derived.Test.YtdkimcnlhmhpgaaGreatH44
import Derived.Deep.RegionHeld3
import Derived.BigQuiet
import Derived.IntWalk
import Derived.Laws.StructEq
import Derived.Deep.QuietTactic
set_option linter.unusedVariables false
set_option linter.unusedSimpArgs false
namespace Go.Proofs.YtdkimcnlhmhpgaaGreat
open Go.RowKit
set_option maxRecDepth 100000 in
theorem utell0 {T : List Nat} {w : World} {B b sb mb lo : Nat} {v : VS} (h : VolAt T w B b sb mb lo v) (c : Int) : Calls Tryz.prog 51 #[.pointer (some ⟨B, 0, none⟩), .int .i64 c] w fun e w' => e = .returned (.int .i64 c) ∧ VolAt T w' B b sb mb lo (tellX (v, c)).1 ∧ Kept [B] w w' := by
 have HS : Hid (∀ x, x = (v.dead || c == 90) → VolAt T (w.setCell ⟨B, 12, none⟩ (.bool x)) B b sb mb lo (tellX (v, c)).1) := Lib.hid (by
  rintro x rfl
  obtain ⟨sv, vb, vm, vn, o, hr, hcat⟩ := h.vol
  exact h.setV ((Kept.refl [B] w).setCell (p := ⟨B, 12, none⟩) (Or.inl (by simp)) _) (o.s12 _) hr hcat)
 obtain ⟨sv, vb, vm, vn, o, _, _⟩ := h.vol
 obtain ⟨x0, x1, x2, x3, x4, x5, x6, x7, x8, x9, x10, x11, x12⟩ := o.c13
 have z12 := o.free 12
 clear h o x0 x1 x2 x3 x4 x5 x6 x7 x8 x9 x10 x11
 generalize hb90 : (c == 90) = q at *
 generalize tellX (v, c) = R at *
 generalize v.dead = dd at *
 have k1 : Kept [B] w (w.setCell ⟨B, 12, none⟩ (.bool (dd || q))) := (Kept.refl [B] w).setCell (p := ⟨B, 12, none⟩) (Or.inl (by simp)) _
 have K1 := Lib.hid k1
 clear k1
 cases dd <;> cases q
 all_goals
  go_enter Tryz.func51, Tryz.ntmps51
  go_wp2_with fail
  go_ret
  exact ⟨rfl, HS.out _ rfl, K1.out⟩
theorem uallA {T : List Nat} {w0 W : World} {B b sb mb lo gv gr : Nat} {v : VS} {l : List VC} {recs : List JRec} {qs : List SQ} (h : StepsCtx T w0 W B b sb mb lo gv gr v l recs qs) (c : JCat) (cb cm cn : Value) (s : List UInt8) (gv2 gt gc : Nat) (rv : Value)
  (hrow : W.ownsRow w0.heap.size 42 1 rv (qs.length + 2) ((qs.map (sqU gv gr)).map fnV ++ [.func (.func 39) #[.pointer (some ⟨b, 0, none⟩)] #[], .func (.func 107) #[] #[.pointer (some ⟨gv2, 0, none⟩), .pointer (some ⟨gt, 0, none⟩), .pointer (some ⟨gc, 0, none⟩)]]))
  (hv2 : w0.heap.size ≤ gv2) (ht : w0.heap.size ≤ gt) (hc : w0.heap.size ≤ gc) (ov : Own W gv2 #[.pointer (some ⟨B, 0, none⟩)] 27) (ot : Own W gt #[.string (bs s)] 9) (oc : Own W gc #[.int .u32 c.nextBox, .int .u32 c.nextMan, cb, cm, cn] 52)
  (hcat : CatO T W b sb mb (.agg #[.int .u32 c.nextBox, .int .u32 c.nextMan, cb, cm, cn]) c) (hm : v.s.may) (hq : v.s.seq ≤ 1000000) (hs : s.length ≤ 4000) (ho : v.d.ops ≤ 35000) (hw : v.d.waits.length ≤ 700) (hn : v.d.stand.length ≤ 100) (hn1 : 1 ≤ v.d.stand.length) (hl8 : l.length ≤ 8) :
  Calls Tryz.prog 37 #[rv] W fun e w' => e = .returned (.int .i64 (chainV (putsX l recs ++ [onD stepF, appendX c s]) v).2) ∧ VolAt T w' B b sb mb lo (chainV (putsX l recs ++ [onD stepF, appendX c s]) v).1 ∧ PK [B] b sb mb W w' := by
 refine uallG h [stepF] (appendX c s) [(39, #[.pointer (some ⟨b, 0, none⟩)], #[]), (107, #[], #[.pointer (some ⟨gv2, 0, none⟩), .pointer (some ⟨gt, 0, none⟩), .pointer (some ⟨gc, 0, none⟩)])] rfl (by simp) (fun u hu => ?_) rv (by rw [List.map_append]; exact hrow) (fun f hf e he => ?_) ho hw hn hl8 (fun j hj W' D hV k hF => ?_)
 ·simp only [List.mem_cons, List.not_mem_nil, or_false] at hu
  rcases hu with rfl | rfl
  ·exact enters_of Tryz.func39 (by kernel_rfl) rfl
  ·exact enters_of Tryz.func107 (by kernel_rfl) rfl
 ·obtain rfl := List.mem_singleton.1 hf
  exact (fw_stepF e).mono hn1
 ·have hFo := hF.ops
  have hFw := hF.waits
  match j, hj with
  | 0, _ =>
   have := uflush (T := []) hV.da (by show D.ops < _; omega) (by show D.waits.length ≤ _; omega)
   exact this.mono fun e w' ⟨a1, a2, a3⟩ => ⟨a1, hV.pk a3 a2 (fun x hx => by cases hx) (by simp), a3.mono (by simp)⟩
  | 1, _ =>
   have := uappend1 gv2 gt gc c cb cm cn s hV (fun W'' k2 => by
    have kk := k.trans k2
    obtain ⟨d0, d1, d2, d3, d4⟩ := (kk.own oc (h.off hc)).k5
    exact ⟨(kk.own ov (h.off hv2)).cell 0 (by simp), (kk.own ot (h.off ht)).cell 0 (by simp), d0, d1, d2, d3, d4⟩) (hcat.pk (k.toT h.vol.hB)) hm hq hs (by show D.ops ≤ _; omega) (by show D.waits.length ≤ _; omega)
   exact this
theorem uallS {T : List Nat} {w0 W : World} {B b sb mb lo gv gr : Nat} {v : VS} {l : List VC} {recs : List JRec} {qs : List SQ} (h : StepsCtx T w0 W B b sb mb lo gv gr v l recs qs) (c : JCat) (cb cm cn : Value) (s : List UInt8) (R : List (Int × Int)) (ru : Value) (gv2 gt gr2 gc : Nat) (rv : Value)
  (hrow : W.ownsRow w0.heap.size 42 1 rv (qs.length + 1) ((qs.map (sqU gv gr)).map fnV ++ [.func (.func 113) #[] #[.pointer (some ⟨gv2, 0, none⟩), .pointer (some ⟨gt, 0, none⟩), .pointer (some ⟨gr2, 0, none⟩), .pointer (some ⟨gc, 0, none⟩)]]))
  (hv2 : w0.heap.size ≤ gv2) (ht : w0.heap.size ≤ gt) (hr2 : w0.heap.size ≤ gr2) (hc : w0.heap.size ≤ gc) (ov : Own W gv2 #[.pointer (some ⟨B, 0, none⟩)] 27) (ot : Own W gt #[.string (bs s)] 9) (or2 : Own W gr2 #[ru] 56) (oc : Own W gc #[.int .u32 c.nextBox, .int .u32 c.nextMan, cb, cm, cn] 52)
  (hcat : CatO T W b sb mb (.agg #[.int .u32 c.nextBox, .int .u32 c.nextMan, cb, cm, cn]) c) (hrun : RunsO T W b sb mb ru R) (hpl : Pl 0 R) (hmb : (baseS v.s s.length R).may) (hm : v.s.may) (hq : v.s.seq ≤ 1000000) (hs : s.length ≤ 1048576) (ho : v.d.ops ≤ 35000) (hw : v.d.waits.length ≤ 700) (hn : v.d.stand.length ≤ 100) (hl8 : l.length ≤ 8) :
  Calls Tryz.prog 37 #[rv] W fun e w' => e = .returned (.int .i64 (chainV (putsX l recs ++ [settleX c s R]) v).2) ∧ VolAt T w' B b sb mb lo (chainV (putsX l recs ++ [settleX c s R]) v).1 ∧ PK [B] b sb mb W w' := by
 refine uallG h [] (settleX c s R) [(113, #[], #[.pointer (some ⟨gv2, 0, none⟩), .pointer (some ⟨gt, 0, none⟩), .pointer (some ⟨gr2, 0, none⟩), .pointer (some ⟨gc, 0, none⟩)])] rfl (by simp) (fun u hu => ?_) rv (by rw [List.map_append]; exact hrow) (fun f hf e he => by cases hf) ho hw hn hl8 (fun j hj W' D hV k hF => ?_)
 ·obtain rfl := List.mem_singleton.1 hu
  exact enters_of Tryz.func113 (by kernel_rfl) rfl
 ·have hFo := hF.ops
  have hFw := hF.waits
  have hFl := hF.len
  match j, hj with
  | 0, _ =>
   have := usettle1 gv2 gt gr2 gc c cb cm cn s ru R hV (fun W'' k2 => by
    have kk := k.trans k2
    obtain ⟨d0, d1, d2, d3, d4⟩ := (kk.own oc (h.off hc)).k5
    exact ⟨(kk.own ov (h.off hv2)).cell 0 (by simp), (kk.own ot (h.off ht)).cell 0 (by simp), (kk.own or2 (h.off hr2)).cell 0 (by simp), d0, d1, d2, d3, d4⟩) (hcat.pk (k.toT h.vol.hB)) (hrun.pk (k.toT h.vol.hB)) hpl hmb hm hq hs (by show D.ops ≤ _; omega) (by show D.waits.length ≤ _; omega) (by show D.stand.length ≤ _; omega)
   exact this
theorem CatOff.more {S T : Nat → Prop} {w : World} {v : Value} {c : JCat} (h : CatOff S w v c) (hT : ∀ x, T x → w.heap.size ≤ x) : CatOff (fun x => S x ∨ T x) w v c := by
 obtain ⟨a, b, d, e, h1, h2, h3, h4⟩ := h
 exact ⟨a, b, d, e, h1.more hT, h2.more hT, h3.more hT, h4⟩
end Go.Proofs.YtdkimcnlhmhpgaaGreat
