/- -/
import Derived.Test.YtdkimcnlhmhpgaaGreatH25
set_option linter.unusedVariables false
set_option linter.unusedSimpArgs false
namespace Go.Proofs.YtdkimcnlhmhpgaaGreat
open Go.RowKit
def CatOff (S : Nat → Prop) (w : World) (v : Value) (c : JCat) : Prop := ∃ vb vm vn, v = .agg #[.int .u32 c.nextBox, .int .u32 c.nextMan, vb, vm, vn] ∧ ItemsOff S w vb c.boxes ∧ ItemsOff S w vm c.mans ∧ ItemsOff S w vn c.names ∧ (Lit.int .u32 c.nextBox).wf = true ∧ (Lit.int .u32 c.nextMan).wf = true
theorem CatOff.plain {S : Nat → Prop} {w : World} {v : Value} {c : JCat} (h : CatOff S w v c) : CatIn w v c := by
 obtain ⟨a, b, d, e, h1, h2, h3, h4⟩ := h
 exact ⟨a, b, d, e, h1.plain, h2.plain, h3.plain, h4⟩
theorem CatOff.kept0 {S : Nat → Prop} {w w' : World} {v : Value} {c : JCat} (h : CatOff S w v c) (k : Kept [] w w') : CatOff S w' v c := by
 obtain ⟨a, b, d, e, h1, h2, h3, h4⟩ := h
 exact ⟨a, b, d, e, h1.kept0 k, h2.kept0 k, h3.kept0 k, h4⟩
theorem CatOff.keptT {S : Nat → Prop} {T : List Nat} {w w' : World} {v : Value} {c : JCat} (h : CatOff S w v c) (k : Kept T w w') (hT : ∀ x ∈ T, S x) : CatOff S w' v c := by
 obtain ⟨a, b, d, e, h1, h2, h3, h4⟩ := h
 exact ⟨a, b, d, e, h1.keptT k hT, h2.keptT k hT, h3.keptT k hT, h4⟩
theorem OffV.weaken {S T : Nat → Prop} {v : Value} {n : Nat} (h : OffV S v n) (hST : ∀ x, T x → S x) : OffV T v n := fun g off sp n' c e hn hg => h g off sp n' c e hn (hST _ hg)
theorem ItemsOff.weaken {S T : Nat → Prop} {w : World} {v : Value} {l : List JItem} (h : ItemsOff S w v l) (hST : ∀ x, T x → S x) : ItemsOff T w v l := by
 obtain ⟨vs, h1, h2, h3, h4⟩ := h
 exact ⟨vs, h1, h2, fun x hx => ⟨(h3 x hx).1, (h3 x hx).2.weaken hST⟩, h4.weaken hST⟩
theorem OffV.or {S T : Nat → Prop} {v : Value} {n : Nat} (h : OffV S v n) (h2 : OffV T v n) : OffV (fun x => S x ∨ T x) v n := fun g off sp n' c e hn hg => hg.elim (h g off sp n' c e hn) (h2 g off sp n' c e hn)
theorem ItemsOff.more {S T : Nat → Prop} {w : World} {v : Value} {l : List JItem} (h : ItemsOff S w v l) (hT : ∀ x, T x → w.heap.size ≤ x) : ItemsOff (fun x => S x ∨ T x) w v l := by
 obtain ⟨vs, h1, h2, h3, h4⟩ := h
 refine ⟨vs, h1, h2, fun x hx => ⟨(h3 x hx).1, (h3 x hx).2.or ((h3 x hx).1.1.off hT)⟩, h4.or (fun g off sp n c e hn hg => ?_)⟩
 obtain ⟨p, c', e'⟩ := h2.shape
 rw [e'] at h2
 obtain ⟨b, off', e2, _, hb, _⟩ := h2.at_ hn
 rw [e'] at e
 injection e with e
 rw [e2] at e
 injection e with e
 injection e with e
 subst e
 have := hT _ hg
 omega
def ApplySays (S : Nat → Prop) (L : JCat × Int) (w : World) (e : Ending) (w' : World) : Prop := ∃ v, e = .returned (.tuple #[v, .int .i64 L.2]) ∧ CatOff S w' v L.1 ∧ Kept [] w w'
theorem Kept.set5s {S : List Nat} {w0 w : World} {g : Nat} (h : Kept S w0 w) (hg : g ∈ S ∨ w0.heap.size ≤ g) (a b c d e : Value) : Kept S w0 (((((w.setCell ⟨g, 0, none⟩ a).setCell ⟨g, 1, none⟩ b).setCell ⟨g, 2, none⟩ c).setCell ⟨g, 3, none⟩ d).setCell ⟨g, 4, none⟩ e) :=
 ((((h.setCell (p := ⟨g, 0, none⟩) hg a).setCell (p := ⟨g, 1, none⟩) hg b).setCell (p := ⟨g, 2, none⟩) hg c).setCell (p := ⟨g, 3, none⟩) hg d).setCell (p := ⟨g, 4, none⟩) hg e
theorem Own.y5 {w : World} {b : Nat} {x0 x1 x2 x3 x4 : Value} {t : TypeId} (h : Own w b #[x0, x1, x2, x3, x4] t) : w.frozen? ⟨b, 0, none⟩ = false ∧ w.frozen? ⟨b, 1, none⟩ = false ∧ w.frozen? ⟨b, 2, none⟩ = false ∧ w.frozen? ⟨b, 3, none⟩ = false ∧ w.frozen? ⟨b, 4, none⟩ = false := ⟨h.free 0, h.free 1, h.free 2, h.free 3, h.free 4⟩
theorem Own.put5 {w : World} {b : Nat} {x0 x1 x2 x3 x4 : Value} {t : TypeId} (h : Own w b #[x0, x1, x2, x3, x4] t) (y0 y1 y2 y3 y4 : Value) :
  Own (((((w.setCell ⟨b, 0, none⟩ y0).setCell ⟨b, 1, none⟩ y1).setCell ⟨b, 2, none⟩ y2).setCell ⟨b, 3, none⟩ y3).setCell ⟨b, 4, none⟩ y4) b #[y0, y1, y2, y3, y4] t := by
 have := ((((h.set 0 y0).set 1 y1).set 2 y2).set 3 y3).set 4 y4
 simpa using this
theorem own_threeC (w : World) (A B C : Array Value) (s t u : TypeId) : Own (((w.alloc (.cells A s)).alloc (.cells B t)).alloc (.cells C u)) w.heap.size A s ∧ Own (((w.alloc (.cells A s)).alloc (.cells B t)).alloc (.cells C u)) (w.heap.size + 1) B t ∧ Own (((w.alloc (.cells A s)).alloc (.cells B t)).alloc (.cells C u)) (w.heap.size + 2) C u := own_three w A B C s t u
theorem wf32 {n : Int} (h0 : 0 ≤ n) (h1 : n ≤ 4294967295) : (Lit.int .u32 n).wf = true := by
 simp only [Lit.wf, Bool.and_eq_true, decide_eq_true_eq]
 exact ⟨h0, h1⟩
theorem wrap32_of {n : Int} (h0 : 0 ≤ n) (h1 : n ≤ 4294967295) : IntKind.u32.wrap n = n := by rw [IntKind.wrap_u32]; omega
set_option maxRecDepth 100000 in
set_option maxHeartbeats 4000000 in
theorem zapply1 {S0 : Nat → Prop} (v : Value) (c : JCat) (r : JRec) (rv : Value) (w : World) (h : CatOff S0 w v c) (hS0 : ∀ x, S0 x → x < w.heap.size) (hmc : mayC c) (hrr : RunsIn w rv r.runs 0 w.heap.size) (hf : r.fits) (hwf : ∀ a ∈ r.runs, WfRun a) (hmr : mayR r = true) (hk : r.kind = 1) :
  Calls Tryz.prog 99 #[v, .agg (r.cells rv)] w (ApplySays S0 (oneX c r) w) := by
 have hone : oneX c r = ({ c with boxes := (comesX c.boxes r.item c.nextBox 2048 false).1, nextBox := r.id + 1 }, (comesX c.boxes r.item c.nextBox 2048 false).2) := by
  unfold oneX
  rw [if_pos hk]
 rw [hone]
 have hrl : r.runs.length ≤ 1000000 := by have := may_runs hmr; omega
 have hid := may_id hmr
 have hid0 : 0 ≤ r.id := (bd32 hf.2.1).1
 obtain ⟨vb, vm, vn, rfl, hb, hm, hn, hwb, hwm⟩ := h
 have HB := Lib.hid (fun W (q : Kept [] w W) => hb.kept0 q)
 have HM := Lib.hid (fun W (q : Kept [] w W) => hm.kept0 q)
 have HN := Lib.hid (fun W (q : Kept [] w W) => hn.kept0 q)
 obtain ⟨p1, c1, rfl⟩ := hb.plain.shape
 obtain ⟨p2, c2, rfl⟩ := hm.plain.shape
 obtain ⟨p3, c3, rfl⟩ := hn.plain.shape
 obtain ⟨pr, cr, rfl⟩ := hrr.shape
 unfold JRec.cells
 have HC : Hid (∀ W, Kept [] w W → w.heap.size + 3 ≤ W.heap.size → Calls Tryz.prog 171 #[.slice p1 c.boxes.length c1, .agg #[.int .i64 r.kind, .int .u32 r.id, .string (bs r.name), .int .i64 r.size, .slice pr r.runs.length cr], .int .u32 c.nextBox, .int .i64 2048, .bool false] W (ComesSays (fun x => S0 x ∨ (x = w.heap.size ∨ x = w.heap.size + 2)) (comesX c.boxes r.item c.nextBox 2048 false) W)) := Lib.hid (fun W q hsz => by
  have hSW : ∀ x, (S0 x ∨ (x = w.heap.size ∨ x = w.heap.size + 2)) → x < W.heap.size := fun x hx => by
   rcases hx with hx | hx
   ·have := hS0 x hx; omega
   ·omega
  have hh := zcomes _ _ r _ c.nextBox 2048 false W ((hb.more (fun x hx => by omega)).kept0 q) hSW (by have := hmc.boxes.1; omega) hmc.boxes.2.2 (hrr.kept0 q).upto hf hwf hrl (by decide)
  unfold JRec.cells at hh
  exact hh)
 unfold ComesSays at HC
 obtain ⟨LL, hLL⟩ : ∃ L, comesX c.boxes r.item c.nextBox 2048 false = L := ⟨_, rfl⟩
 rw [hLL] at HC ⊢
 obtain ⟨LI, LC⟩ := LL
 simp only at HC ⊢
 have hnb1 := (bd32 hwb)
 have hnm1 := (bd32 hwm)
 have HW1 : Hid ((Lit.int .u32 (r.id + 1)).wf = true) := Lib.hid (wf32 (by omega) (by omega))
 have HW2 : Hid ((Lit.int .u32 (max c.nextMan (r.id + 1))).wf = true) := Lib.hid (wf32 (by omega) (by omega))
 have HWB := Lib.hid hwb
 have HWM := Lib.hid hwm
 obtain ⟨oA, oB, oC⟩ := own_threeC w #[.int .u32 c.nextBox, .int .u32 c.nextMan, .slice p1 c.boxes.length c1, .slice p2 c.mans.length c2, .slice p3 c.names.length c3] #[.int .i64 1, .int .u32 r.id, .string (bs r.name), .int .i64 r.size, .slice pr r.runs.length cr] #[.int .u32 0, .int .u32 0, .slice none 0 0, .slice none 0 0, .slice none 0 0] 52 102 52
 have k0 : Kept [] w (((w.alloc (.cells #[.int .u32 c.nextBox, .int .u32 c.nextMan, .slice p1 c.boxes.length c1, .slice p2 c.mans.length c2, .slice p3 c.names.length c3] 52)).alloc (.cells #[.int .i64 1, .int .u32 r.id, .string (bs r.name), .int .i64 r.size, .slice pr r.runs.length cr] 102)).alloc (.cells #[.int .u32 0, .int .u32 0, .slice none 0 0, .slice none 0 0, .slice none 0 0] 52)) := (((Kept.refl _ _).alloc _).alloc _).alloc _
 have hw1 : IntKind.u32.wrap (r.id + 1) = r.id + 1 := wrap32_of (by omega) (by omega)
 obtain ⟨x0, x1, x2, x3, x4⟩ := oA.k5
 obtain ⟨y0, y1, y2, y3, y4⟩ := oB.k5
 obtain ⟨mx, hmx⟩ : ∃ m, max c.nextMan (r.id + 1) = m := ⟨_, rfl⟩
 have HMX := Lib.hid hmx
 have OA := Lib.hid oA
 have OB := Lib.hid oB
 have OC := Lib.hid oC
 have K0 := Lib.hid k0
 rw [hk] at HC ⊢
 clear oA oB oC k0 hLL hone hb hm hn hrr hf hwf hmr hmc hwb hwm hnb1 hnm1
 go_enter Tryz.func99, Tryz.ntmps99
 go_wp2_with fail
 refine (HC.out _ K0.out (by simp)).mono ?_; rintro e w4 ⟨v4, rfl, h4, k4⟩
 have H4 := Lib.hid h4
 have K4 := Lib.hid (K0.out.trans k4)
 obtain ⟨p4, c4, rfl⟩ := h4.plain.shape
 have oA4 := k4.own OA.out (by simp)
 have oB4 := k4.own OB.out (by simp)
 have oC4 := k4.own OC.out (by simp)
 obtain ⟨x0, x1, x2, x3, x4⟩ := oA4.k5
 obtain ⟨y0, y1, y2, y3, y4⟩ := oB4.k5
 obtain ⟨z0, z1, z2, z3, z4⟩ := oC4.k5
 obtain ⟨f0, f1, f2, f3, f4⟩ := oA4.y5
 obtain ⟨g0, g1, g2, g3, g4⟩ := oC4.y5
 have OA4 := Lib.hid oA4
 have OC4 := Lib.hid oC4
 clear h4 oA4 oB4 oC4
 go_wp2_with fail
 have hne : w.heap.size + 2 ≠ w.heap.size := by omega
 have oF := Own.put5 (((OC4.out).other (p := ⟨w.heap.size, 2, none⟩) hne (.slice p4 LI.length c4)).other (p := ⟨w.heap.size, 0, none⟩) hne (.int .u32 (r.id + 1))) (.int .u32 (r.id + 1)) (.int .u32 c.nextMan) (.slice p4 LI.length c4) (.slice p2 c.mans.length c2) (.slice p3 c.names.length c3)
 have kF : Kept [] w (((((((w4.setCell ⟨w.heap.size, 2, none⟩ (.slice p4 LI.length c4)).setCell ⟨w.heap.size, 0, none⟩ (.int .u32 (r.id + 1))).setCell ⟨w.heap.size + 2, 0, none⟩ (.int .u32 (r.id + 1))).setCell ⟨w.heap.size + 2, 1, none⟩ (.int .u32 c.nextMan)).setCell ⟨w.heap.size + 2, 2, none⟩ (.slice p4 LI.length c4)).setCell ⟨w.heap.size + 2, 3, none⟩ (.slice p2 c.mans.length c2)).setCell ⟨w.heap.size + 2, 4, none⟩ (.slice p3 c.names.length c3)) := Kept.set5s (((K4.out).setCell (p := ⟨w.heap.size, 2, none⟩) (Or.inr (Nat.le_refl _)) (.slice p4 LI.length c4)).setCell (p := ⟨w.heap.size, 0, none⟩) (Or.inr (Nat.le_refl _)) (.int .u32 (r.id + 1))) (Or.inr (by omega)) _ _ _ _ _
 have kT : Kept [w.heap.size, w.heap.size + 2] w4 (((((((w4.setCell ⟨w.heap.size, 2, none⟩ (.slice p4 LI.length c4)).setCell ⟨w.heap.size, 0, none⟩ (.int .u32 (r.id + 1))).setCell ⟨w.heap.size + 2, 0, none⟩ (.int .u32 (r.id + 1))).setCell ⟨w.heap.size + 2, 1, none⟩ (.int .u32 c.nextMan)).setCell ⟨w.heap.size + 2, 2, none⟩ (.slice p4 LI.length c4)).setCell ⟨w.heap.size + 2, 3, none⟩ (.slice p2 c.mans.length c2)).setCell ⟨w.heap.size + 2, 4, none⟩ (.slice p3 c.names.length c3)) := Kept.set5s (((Kept.refl _ _).setCell (p := ⟨w.heap.size, 2, none⟩) (Or.inl (by simp)) (.slice p4 LI.length c4)).setCell (p := ⟨w.heap.size, 0, none⟩) (Or.inl (by simp)) (.int .u32 (r.id + 1))) (Or.inl (by simp)) _ _ _ _ _
 have h5 := (H4.out.keptT kT (fun x hx => by simp at hx; rcases hx with rfl | rfl; exact Or.inr (Or.inl rfl); exact Or.inr (Or.inr rfl))).weaken (T := S0) (fun x hx => Or.inl hx)
 refine bodyPost_ret (v := .tuple #[.agg #[(.int .u32 (r.id + 1)), (.int .u32 c.nextMan), (.slice p4 LI.length c4), (.slice p2 c.mans.length c2), (.slice p3 c.names.length c3)], .int .i64 LC]) (ret_row_tmp Tryz.results99 rfl rfl (t := 52) ?_ Tryz.underlying52 rfl (by kernel_rfl)) rfl ?_
 ·exact oF
 ·exact ⟨_, rfl, ⟨_, _, _, rfl, h5, (HM.out _ kF), (HN.out _ kF), HW1.out, HWM.out⟩, kF⟩
set_option maxRecDepth 100000 in
set_option maxHeartbeats 4000000 in
theorem zapply2 {S0 : Nat → Prop} (v : Value) (c : JCat) (r : JRec) (rv : Value) (w : World) (h : CatOff S0 w v c) (hS0 : ∀ x, S0 x → x < w.heap.size) (hmc : mayC c) (hrr : RunsIn w rv r.runs 0 w.heap.size) (hf : r.fits) (hwf : ∀ a ∈ r.runs, WfRun a) (hmr : mayR r = true) (hk : r.kind = 2) :
  Calls Tryz.prog 99 #[v, .agg (r.cells rv)] w (ApplySays S0 (oneX c r) w) := by
 have hone : oneX c r = ({ c with mans := (comesX c.mans r.item c.nextMan 2048 true).1, nextMan := max c.nextMan (r.id + 1) }, (comesX c.mans r.item c.nextMan 2048 true).2) := by
  unfold oneX
  rw [if_neg (by rw [hk]; decide)]
  rw [if_pos hk]
 rw [hone]
 have hrl : r.runs.length ≤ 1000000 := by have := may_runs hmr; omega
 have hid := may_id hmr
 have hid0 : 0 ≤ r.id := (bd32 hf.2.1).1
 obtain ⟨vb, vm, vn, rfl, hb, hm, hn, hwb, hwm⟩ := h
 have HB := Lib.hid (fun W (q : Kept [] w W) => hb.kept0 q)
 have HM := Lib.hid (fun W (q : Kept [] w W) => hm.kept0 q)
 have HN := Lib.hid (fun W (q : Kept [] w W) => hn.kept0 q)
 obtain ⟨p1, c1, rfl⟩ := hb.plain.shape
 obtain ⟨p2, c2, rfl⟩ := hm.plain.shape
 obtain ⟨p3, c3, rfl⟩ := hn.plain.shape
 obtain ⟨pr, cr, rfl⟩ := hrr.shape
 unfold JRec.cells
 have HC : Hid (∀ W, Kept [] w W → w.heap.size + 3 ≤ W.heap.size → Calls Tryz.prog 171 #[.slice p2 c.mans.length c2, .agg #[.int .i64 r.kind, .int .u32 r.id, .string (bs r.name), .int .i64 r.size, .slice pr r.runs.length cr], .int .u32 c.nextMan, .int .i64 2048, .bool true] W (ComesSays (fun x => S0 x ∨ (x = w.heap.size ∨ x = w.heap.size + 2)) (comesX c.mans r.item c.nextMan 2048 true) W)) := Lib.hid (fun W q hsz => by
  have hSW : ∀ x, (S0 x ∨ (x = w.heap.size ∨ x = w.heap.size + 2)) → x < W.heap.size := fun x hx => by
   rcases hx with hx | hx
   ·have := hS0 x hx; omega
   ·omega
  have hh := zcomes _ _ r _ c.nextMan 2048 true W ((hm.more (fun x hx => by omega)).kept0 q) hSW (by have := hmc.mans.1; omega) hmc.mans.2.2 (hrr.kept0 q).upto hf hwf hrl (by decide)
  unfold JRec.cells at hh
  exact hh)
 unfold ComesSays at HC
 obtain ⟨LL, hLL⟩ : ∃ L, comesX c.mans r.item c.nextMan 2048 true = L := ⟨_, rfl⟩
 rw [hLL] at HC ⊢
 obtain ⟨LI, LC⟩ := LL
 simp only at HC ⊢
 have hnb1 := (bd32 hwb)
 have hnm1 := (bd32 hwm)
 have HW1 : Hid ((Lit.int .u32 (r.id + 1)).wf = true) := Lib.hid (wf32 (by omega) (by omega))
 have HW2 : Hid ((Lit.int .u32 (max c.nextMan (r.id + 1))).wf = true) := Lib.hid (wf32 (by omega) (by omega))
 have HWB := Lib.hid hwb
 have HWM := Lib.hid hwm
 obtain ⟨oA, oB, oC⟩ := own_threeC w #[.int .u32 c.nextBox, .int .u32 c.nextMan, .slice p1 c.boxes.length c1, .slice p2 c.mans.length c2, .slice p3 c.names.length c3] #[.int .i64 2, .int .u32 r.id, .string (bs r.name), .int .i64 r.size, .slice pr r.runs.length cr] #[.int .u32 0, .int .u32 0, .slice none 0 0, .slice none 0 0, .slice none 0 0] 52 102 52
 have k0 : Kept [] w (((w.alloc (.cells #[.int .u32 c.nextBox, .int .u32 c.nextMan, .slice p1 c.boxes.length c1, .slice p2 c.mans.length c2, .slice p3 c.names.length c3] 52)).alloc (.cells #[.int .i64 2, .int .u32 r.id, .string (bs r.name), .int .i64 r.size, .slice pr r.runs.length cr] 102)).alloc (.cells #[.int .u32 0, .int .u32 0, .slice none 0 0, .slice none 0 0, .slice none 0 0] 52)) := (((Kept.refl _ _).alloc _).alloc _).alloc _
 have hw1 : IntKind.u32.wrap (r.id + 1) = r.id + 1 := wrap32_of (by omega) (by omega)
 obtain ⟨x0, x1, x2, x3, x4⟩ := oA.k5
 obtain ⟨y0, y1, y2, y3, y4⟩ := oB.k5
 obtain ⟨mx, hmx⟩ : ∃ m, max c.nextMan (r.id + 1) = m := ⟨_, rfl⟩
 have HMX := Lib.hid hmx
 have OA := Lib.hid oA
 have OB := Lib.hid oB
 have OC := Lib.hid oC
 have K0 := Lib.hid k0
 rw [hk] at HC ⊢
 clear oA oB oC k0 hLL hone hb hm hn hrr hf hwf hmr hmc hwb hwm hnb1 hnm1
 go_enter Tryz.func99, Tryz.ntmps99
 go_wp2_with fail
 refine (HC.out _ K0.out (by simp)).mono ?_; rintro e w4 ⟨v4, rfl, h4, k4⟩
 have H4 := Lib.hid h4
 have K4 := Lib.hid (K0.out.trans k4)
 obtain ⟨p4, c4, rfl⟩ := h4.plain.shape
 have oA4 := k4.own OA.out (by simp)
 have oB4 := k4.own OB.out (by simp)
 have oC4 := k4.own OC.out (by simp)
 obtain ⟨x0, x1, x2, x3, x4⟩ := oA4.k5
 obtain ⟨y0, y1, y2, y3, y4⟩ := oB4.k5
 obtain ⟨z0, z1, z2, z3, z4⟩ := oC4.k5
 obtain ⟨f0, f1, f2, f3, f4⟩ := oA4.y5
 obtain ⟨g0, g1, g2, g3, g4⟩ := oC4.y5
 have OA4 := Lib.hid oA4
 have OC4 := Lib.hid oC4
 clear h4 oA4 oB4 oC4
 go_wp2_with fail
 have hne : w.heap.size + 2 ≠ w.heap.size := by omega
 have oF := Own.put5 (((OC4.out).other (p := ⟨w.heap.size, 3, none⟩) hne (.slice p4 LI.length c4)).other (p := ⟨w.heap.size, 1, none⟩) hne (.int .u32 mx)) (.int .u32 c.nextBox) (.int .u32 mx) (.slice p1 c.boxes.length c1) (.slice p4 LI.length c4) (.slice p3 c.names.length c3)
 have kF : Kept [] w (((((((w4.setCell ⟨w.heap.size, 3, none⟩ (.slice p4 LI.length c4)).setCell ⟨w.heap.size, 1, none⟩ (.int .u32 mx)).setCell ⟨w.heap.size + 2, 0, none⟩ (.int .u32 c.nextBox)).setCell ⟨w.heap.size + 2, 1, none⟩ (.int .u32 mx)).setCell ⟨w.heap.size + 2, 2, none⟩ (.slice p1 c.boxes.length c1)).setCell ⟨w.heap.size + 2, 3, none⟩ (.slice p4 LI.length c4)).setCell ⟨w.heap.size + 2, 4, none⟩ (.slice p3 c.names.length c3)) := Kept.set5s (((K4.out).setCell (p := ⟨w.heap.size, 3, none⟩) (Or.inr (Nat.le_refl _)) (.slice p4 LI.length c4)).setCell (p := ⟨w.heap.size, 1, none⟩) (Or.inr (Nat.le_refl _)) (.int .u32 mx)) (Or.inr (by omega)) _ _ _ _ _
 have kT : Kept [w.heap.size, w.heap.size + 2] w4 (((((((w4.setCell ⟨w.heap.size, 3, none⟩ (.slice p4 LI.length c4)).setCell ⟨w.heap.size, 1, none⟩ (.int .u32 mx)).setCell ⟨w.heap.size + 2, 0, none⟩ (.int .u32 c.nextBox)).setCell ⟨w.heap.size + 2, 1, none⟩ (.int .u32 mx)).setCell ⟨w.heap.size + 2, 2, none⟩ (.slice p1 c.boxes.length c1)).setCell ⟨w.heap.size + 2, 3, none⟩ (.slice p4 LI.length c4)).setCell ⟨w.heap.size + 2, 4, none⟩ (.slice p3 c.names.length c3)) := Kept.set5s (((Kept.refl _ _).setCell (p := ⟨w.heap.size, 3, none⟩) (Or.inl (by simp)) (.slice p4 LI.length c4)).setCell (p := ⟨w.heap.size, 1, none⟩) (Or.inl (by simp)) (.int .u32 mx)) (Or.inl (by simp)) _ _ _ _ _
 have h5 := (H4.out.keptT kT (fun x hx => by simp at hx; rcases hx with rfl | rfl; exact Or.inr (Or.inl rfl); exact Or.inr (Or.inr rfl))).weaken (T := S0) (fun x hx => Or.inl hx)
 refine bodyPost_ret (v := .tuple #[.agg #[(.int .u32 c.nextBox), (.int .u32 mx), (.slice p1 c.boxes.length c1), (.slice p4 LI.length c4), (.slice p3 c.names.length c3)], .int .i64 LC]) (ret_row_tmp Tryz.results99 rfl rfl (t := 52) ?_ Tryz.underlying52 rfl (by kernel_rfl)) rfl ?_
 ·exact oF
 ·exact ⟨_, rfl, ⟨_, _, _, (by rw [← HMX.out]), (HB.out _ kF), h5, (HN.out _ kF), HWB.out, HW2.out⟩, kF⟩
set_option maxRecDepth 100000 in
set_option maxHeartbeats 4000000 in
theorem zapply3 {S0 : Nat → Prop} (v : Value) (c : JCat) (r : JRec) (rv : Value) (w : World) (h : CatOff S0 w v c) (hS0 : ∀ x, S0 x → x < w.heap.size) (hmc : mayC c) (hrr : RunsIn w rv r.runs 0 w.heap.size) (hf : r.fits) (hwf : ∀ a ∈ r.runs, WfRun a) (hmr : mayR r = true) (hk : r.kind = 3) :
  Calls Tryz.prog 99 #[v, .agg (r.cells rv)] w (ApplySays S0 (oneX c r) w) := by
 have hone : oneX c r = ({ c with names := (comesX c.names r.item 0 256 false).1 }, (comesX c.names r.item 0 256 false).2) := by
  unfold oneX
  rw [if_neg (by rw [hk]; decide)]
  rw [if_neg (by rw [hk]; decide)]
  rw [if_pos hk]
 rw [hone]
 have hrl : r.runs.length ≤ 1000000 := by have := may_runs hmr; omega
 have hid := may_id hmr
 have hid0 : 0 ≤ r.id := (bd32 hf.2.1).1
 obtain ⟨vb, vm, vn, rfl, hb, hm, hn, hwb, hwm⟩ := h
 have HB := Lib.hid (fun W (q : Kept [] w W) => hb.kept0 q)
 have HM := Lib.hid (fun W (q : Kept [] w W) => hm.kept0 q)
 have HN := Lib.hid (fun W (q : Kept [] w W) => hn.kept0 q)
 obtain ⟨p1, c1, rfl⟩ := hb.plain.shape
 obtain ⟨p2, c2, rfl⟩ := hm.plain.shape
 obtain ⟨p3, c3, rfl⟩ := hn.plain.shape
 obtain ⟨pr, cr, rfl⟩ := hrr.shape
 unfold JRec.cells
 have HC : Hid (∀ W, Kept [] w W → w.heap.size + 3 ≤ W.heap.size → Calls Tryz.prog 171 #[.slice p3 c.names.length c3, .agg #[.int .i64 r.kind, .int .u32 r.id, .string (bs r.name), .int .i64 r.size, .slice pr r.runs.length cr], .int .u32 0, .int .i64 256, .bool false] W (ComesSays (fun x => S0 x ∨ (x = w.heap.size ∨ x = w.heap.size + 2)) (comesX c.names r.item 0 256 false) W)) := Lib.hid (fun W q hsz => by
  have hSW : ∀ x, (S0 x ∨ (x = w.heap.size ∨ x = w.heap.size + 2)) → x < W.heap.size := fun x hx => by
   rcases hx with hx | hx
   ·have := hS0 x hx; omega
   ·omega
  have hh := zcomes _ _ r _ 0 256 false W ((hn.more (fun x hx => by omega)).kept0 q) hSW (by have := hmc.names.1; omega) hmc.names.2.2 (hrr.kept0 q).upto hf hwf hrl (by decide)
  unfold JRec.cells at hh
  exact hh)
 unfold ComesSays at HC
 obtain ⟨LL, hLL⟩ : ∃ L, comesX c.names r.item 0 256 false = L := ⟨_, rfl⟩
 rw [hLL] at HC ⊢
 obtain ⟨LI, LC⟩ := LL
 simp only at HC ⊢
 have hnb1 := (bd32 hwb)
 have hnm1 := (bd32 hwm)
 have HW1 : Hid ((Lit.int .u32 (r.id + 1)).wf = true) := Lib.hid (wf32 (by omega) (by omega))
 have HW2 : Hid ((Lit.int .u32 (max c.nextMan (r.id + 1))).wf = true) := Lib.hid (wf32 (by omega) (by omega))
 have HWB := Lib.hid hwb
 have HWM := Lib.hid hwm
 obtain ⟨oA, oB, oC⟩ := own_threeC w #[.int .u32 c.nextBox, .int .u32 c.nextMan, .slice p1 c.boxes.length c1, .slice p2 c.mans.length c2, .slice p3 c.names.length c3] #[.int .i64 3, .int .u32 r.id, .string (bs r.name), .int .i64 r.size, .slice pr r.runs.length cr] #[.int .u32 0, .int .u32 0, .slice none 0 0, .slice none 0 0, .slice none 0 0] 52 102 52
 have k0 : Kept [] w (((w.alloc (.cells #[.int .u32 c.nextBox, .int .u32 c.nextMan, .slice p1 c.boxes.length c1, .slice p2 c.mans.length c2, .slice p3 c.names.length c3] 52)).alloc (.cells #[.int .i64 3, .int .u32 r.id, .string (bs r.name), .int .i64 r.size, .slice pr r.runs.length cr] 102)).alloc (.cells #[.int .u32 0, .int .u32 0, .slice none 0 0, .slice none 0 0, .slice none 0 0] 52)) := (((Kept.refl _ _).alloc _).alloc _).alloc _
 have hw1 : IntKind.u32.wrap (r.id + 1) = r.id + 1 := wrap32_of (by omega) (by omega)
 obtain ⟨x0, x1, x2, x3, x4⟩ := oA.k5
 obtain ⟨y0, y1, y2, y3, y4⟩ := oB.k5
 obtain ⟨mx, hmx⟩ : ∃ m, max c.nextMan (r.id + 1) = m := ⟨_, rfl⟩
 have HMX := Lib.hid hmx
 have OA := Lib.hid oA
 have OB := Lib.hid oB
 have OC := Lib.hid oC
 have K0 := Lib.hid k0
 rw [hk] at HC ⊢
 clear oA oB oC k0 hLL hone hb hm hn hrr hf hwf hmr hmc hwb hwm hnb1 hnm1
 go_enter Tryz.func99, Tryz.ntmps99
 go_wp2_with fail
 refine (HC.out _ K0.out (by simp)).mono ?_; rintro e w4 ⟨v4, rfl, h4, k4⟩
 have H4 := Lib.hid h4
 have K4 := Lib.hid (K0.out.trans k4)
 obtain ⟨p4, c4, rfl⟩ := h4.plain.shape
 have oA4 := k4.own OA.out (by simp)
 have oB4 := k4.own OB.out (by simp)
 have oC4 := k4.own OC.out (by simp)
 obtain ⟨x0, x1, x2, x3, x4⟩ := oA4.k5
 obtain ⟨y0, y1, y2, y3, y4⟩ := oB4.k5
 obtain ⟨z0, z1, z2, z3, z4⟩ := oC4.k5
 obtain ⟨f0, f1, f2, f3, f4⟩ := oA4.y5
 obtain ⟨g0, g1, g2, g3, g4⟩ := oC4.y5
 have OA4 := Lib.hid oA4
 have OC4 := Lib.hid oC4
 clear h4 oA4 oB4 oC4
 go_wp2_with fail
 have hne : w.heap.size + 2 ≠ w.heap.size := by omega
 have oF := Own.put5 ((OC4.out).other (p := ⟨w.heap.size, 4, none⟩) hne (.slice p4 LI.length c4)) (.int .u32 c.nextBox) (.int .u32 c.nextMan) (.slice p1 c.boxes.length c1) (.slice p2 c.mans.length c2) (.slice p4 LI.length c4)
 have kF : Kept [] w ((((((w4.setCell ⟨w.heap.size, 4, none⟩ (.slice p4 LI.length c4)).setCell ⟨w.heap.size + 2, 0, none⟩ (.int .u32 c.nextBox)).setCell ⟨w.heap.size + 2, 1, none⟩ (.int .u32 c.nextMan)).setCell ⟨w.heap.size + 2, 2, none⟩ (.slice p1 c.boxes.length c1)).setCell ⟨w.heap.size + 2, 3, none⟩ (.slice p2 c.mans.length c2)).setCell ⟨w.heap.size + 2, 4, none⟩ (.slice p4 LI.length c4)) := Kept.set5s ((K4.out).setCell (p := ⟨w.heap.size, 4, none⟩) (Or.inr (Nat.le_refl _)) (.slice p4 LI.length c4)) (Or.inr (by omega)) _ _ _ _ _
 have kT : Kept [w.heap.size, w.heap.size + 2] w4 ((((((w4.setCell ⟨w.heap.size, 4, none⟩ (.slice p4 LI.length c4)).setCell ⟨w.heap.size + 2, 0, none⟩ (.int .u32 c.nextBox)).setCell ⟨w.heap.size + 2, 1, none⟩ (.int .u32 c.nextMan)).setCell ⟨w.heap.size + 2, 2, none⟩ (.slice p1 c.boxes.length c1)).setCell ⟨w.heap.size + 2, 3, none⟩ (.slice p2 c.mans.length c2)).setCell ⟨w.heap.size + 2, 4, none⟩ (.slice p4 LI.length c4)) := Kept.set5s ((Kept.refl _ _).setCell (p := ⟨w.heap.size, 4, none⟩) (Or.inl (by simp)) (.slice p4 LI.length c4)) (Or.inl (by simp)) _ _ _ _ _
 have h5 := (H4.out.keptT kT (fun x hx => by simp at hx; rcases hx with rfl | rfl; exact Or.inr (Or.inl rfl); exact Or.inr (Or.inr rfl))).weaken (T := S0) (fun x hx => Or.inl hx)
 refine bodyPost_ret (v := .tuple #[.agg #[(.int .u32 c.nextBox), (.int .u32 c.nextMan), (.slice p1 c.boxes.length c1), (.slice p2 c.mans.length c2), (.slice p4 LI.length c4)], .int .i64 LC]) (ret_row_tmp Tryz.results99 rfl rfl (t := 52) ?_ Tryz.underlying52 rfl (by kernel_rfl)) rfl ?_
 ·exact oF
 ·exact ⟨_, rfl, ⟨_, _, _, rfl, (HB.out _ kF), (HM.out _ kF), h5, HWB.out, HWM.out⟩, kF⟩
set_option maxRecDepth 100000 in
set_option maxHeartbeats 4000000 in
theorem zapply4 {S0 : Nat → Prop} (v : Value) (c : JCat) (r : JRec) (rv : Value) (w : World) (h : CatOff S0 w v c) (hS0 : ∀ x, S0 x → x < w.heap.size) (hmc : mayC c) (hrr : RunsIn w rv r.runs 0 w.heap.size) (hf : r.fits) (hwf : ∀ a ∈ r.runs, WfRun a) (hmr : mayR r = true) (hk : r.kind = 4) :
  Calls Tryz.prog 99 #[v, .agg (r.cells rv)] w (ApplySays S0 (oneX c r) w) := by
 have hone : oneX c r = ({ c with boxes := (goesX c.boxes r.item).1 }, (goesX c.boxes r.item).2) := by
  unfold oneX
  rw [if_neg (by rw [hk]; decide)]
  rw [if_neg (by rw [hk]; decide)]
  rw [if_neg (by rw [hk]; decide)]
  rw [if_pos hk]
 rw [hone]
 have hrl : r.runs.length ≤ 1000000 := by have := may_runs hmr; omega
 have hid := may_id hmr
 have hid0 : 0 ≤ r.id := (bd32 hf.2.1).1
 obtain ⟨vb, vm, vn, rfl, hb, hm, hn, hwb, hwm⟩ := h
 have HB := Lib.hid (fun W (q : Kept [] w W) => hb.kept0 q)
 have HM := Lib.hid (fun W (q : Kept [] w W) => hm.kept0 q)
 have HN := Lib.hid (fun W (q : Kept [] w W) => hn.kept0 q)
 obtain ⟨p1, c1, rfl⟩ := hb.plain.shape
 obtain ⟨p2, c2, rfl⟩ := hm.plain.shape
 obtain ⟨p3, c3, rfl⟩ := hn.plain.shape
 obtain ⟨pr, cr, rfl⟩ := hrr.shape
 unfold JRec.cells
 have HC : Hid (∀ W, Kept [] w W → w.heap.size + 3 ≤ W.heap.size → Calls Tryz.prog 172 #[.slice p1 c.boxes.length c1, .agg #[.int .i64 r.kind, .int .u32 r.id, .string (bs r.name), .int .i64 r.size, .slice pr r.runs.length cr]] W (ComesSays (fun x => S0 x ∨ (x = w.heap.size ∨ x = w.heap.size + 2)) (goesX c.boxes r.item) W)) := Lib.hid (fun W q hsz => by
  have hSW : ∀ x, (S0 x ∨ (x = w.heap.size ∨ x = w.heap.size + 2)) → x < W.heap.size := fun x hx => by
   rcases hx with hx | hx
   ·have := hS0 x hx; omega
   ·omega
  have hh := zgoes _ _ r (.slice pr r.runs.length cr) W ((hb.more (fun x hx => by omega)).kept0 q) hSW (by have := hmc.boxes.1; omega) hmc.boxes.2.2 ⟨_, _, _, rfl⟩
  unfold JRec.cells at hh
  exact hh)
 unfold ComesSays at HC
 obtain ⟨LL, hLL⟩ : ∃ L, goesX c.boxes r.item = L := ⟨_, rfl⟩
 rw [hLL] at HC ⊢
 obtain ⟨LI, LC⟩ := LL
 simp only at HC ⊢
 have hnb1 := (bd32 hwb)
 have hnm1 := (bd32 hwm)
 have HW1 : Hid ((Lit.int .u32 (r.id + 1)).wf = true) := Lib.hid (wf32 (by omega) (by omega))
 have HW2 : Hid ((Lit.int .u32 (max c.nextMan (r.id + 1))).wf = true) := Lib.hid (wf32 (by omega) (by omega))
 have HWB := Lib.hid hwb
 have HWM := Lib.hid hwm
 obtain ⟨oA, oB, oC⟩ := own_threeC w #[.int .u32 c.nextBox, .int .u32 c.nextMan, .slice p1 c.boxes.length c1, .slice p2 c.mans.length c2, .slice p3 c.names.length c3] #[.int .i64 4, .int .u32 r.id, .string (bs r.name), .int .i64 r.size, .slice pr r.runs.length cr] #[.int .u32 0, .int .u32 0, .slice none 0 0, .slice none 0 0, .slice none 0 0] 52 102 52
 have k0 : Kept [] w (((w.alloc (.cells #[.int .u32 c.nextBox, .int .u32 c.nextMan, .slice p1 c.boxes.length c1, .slice p2 c.mans.length c2, .slice p3 c.names.length c3] 52)).alloc (.cells #[.int .i64 4, .int .u32 r.id, .string (bs r.name), .int .i64 r.size, .slice pr r.runs.length cr] 102)).alloc (.cells #[.int .u32 0, .int .u32 0, .slice none 0 0, .slice none 0 0, .slice none 0 0] 52)) := (((Kept.refl _ _).alloc _).alloc _).alloc _
 have hw1 : IntKind.u32.wrap (r.id + 1) = r.id + 1 := wrap32_of (by omega) (by omega)
 obtain ⟨x0, x1, x2, x3, x4⟩ := oA.k5
 obtain ⟨y0, y1, y2, y3, y4⟩ := oB.k5
 obtain ⟨mx, hmx⟩ : ∃ m, max c.nextMan (r.id + 1) = m := ⟨_, rfl⟩
 have HMX := Lib.hid hmx
 have OA := Lib.hid oA
 have OB := Lib.hid oB
 have OC := Lib.hid oC
 have K0 := Lib.hid k0
 rw [hk] at HC ⊢
 clear oA oB oC k0 hLL hone hb hm hn hrr hf hwf hmr hmc hwb hwm hnb1 hnm1
 go_enter Tryz.func99, Tryz.ntmps99
 go_wp2_with fail
 refine (HC.out _ K0.out (by simp)).mono ?_; rintro e w4 ⟨v4, rfl, h4, k4⟩
 have H4 := Lib.hid h4
 have K4 := Lib.hid (K0.out.trans k4)
 obtain ⟨p4, c4, rfl⟩ := h4.plain.shape
 have oA4 := k4.own OA.out (by simp)
 have oB4 := k4.own OB.out (by simp)
 have oC4 := k4.own OC.out (by simp)
 obtain ⟨x0, x1, x2, x3, x4⟩ := oA4.k5
 obtain ⟨y0, y1, y2, y3, y4⟩ := oB4.k5
 obtain ⟨z0, z1, z2, z3, z4⟩ := oC4.k5
 obtain ⟨f0, f1, f2, f3, f4⟩ := oA4.y5
 obtain ⟨g0, g1, g2, g3, g4⟩ := oC4.y5
 have OA4 := Lib.hid oA4
 have OC4 := Lib.hid oC4
 clear h4 oA4 oB4 oC4
 go_wp2_with fail
 have hne : w.heap.size + 2 ≠ w.heap.size := by omega
 have oF := Own.put5 ((OC4.out).other (p := ⟨w.heap.size, 2, none⟩) hne (.slice p4 LI.length c4)) (.int .u32 c.nextBox) (.int .u32 c.nextMan) (.slice p4 LI.length c4) (.slice p2 c.mans.length c2) (.slice p3 c.names.length c3)
 have kF : Kept [] w ((((((w4.setCell ⟨w.heap.size, 2, none⟩ (.slice p4 LI.length c4)).setCell ⟨w.heap.size + 2, 0, none⟩ (.int .u32 c.nextBox)).setCell ⟨w.heap.size + 2, 1, none⟩ (.int .u32 c.nextMan)).setCell ⟨w.heap.size + 2, 2, none⟩ (.slice p4 LI.length c4)).setCell ⟨w.heap.size + 2, 3, none⟩ (.slice p2 c.mans.length c2)).setCell ⟨w.heap.size + 2, 4, none⟩ (.slice p3 c.names.length c3)) := Kept.set5s ((K4.out).setCell (p := ⟨w.heap.size, 2, none⟩) (Or.inr (Nat.le_refl _)) (.slice p4 LI.length c4)) (Or.inr (by omega)) _ _ _ _ _
 have kT : Kept [w.heap.size, w.heap.size + 2] w4 ((((((w4.setCell ⟨w.heap.size, 2, none⟩ (.slice p4 LI.length c4)).setCell ⟨w.heap.size + 2, 0, none⟩ (.int .u32 c.nextBox)).setCell ⟨w.heap.size + 2, 1, none⟩ (.int .u32 c.nextMan)).setCell ⟨w.heap.size + 2, 2, none⟩ (.slice p4 LI.length c4)).setCell ⟨w.heap.size + 2, 3, none⟩ (.slice p2 c.mans.length c2)).setCell ⟨w.heap.size + 2, 4, none⟩ (.slice p3 c.names.length c3)) := Kept.set5s ((Kept.refl _ _).setCell (p := ⟨w.heap.size, 2, none⟩) (Or.inl (by simp)) (.slice p4 LI.length c4)) (Or.inl (by simp)) _ _ _ _ _
 have h5 := (H4.out.keptT kT (fun x hx => by simp at hx; rcases hx with rfl | rfl; exact Or.inr (Or.inl rfl); exact Or.inr (Or.inr rfl))).weaken (T := S0) (fun x hx => Or.inl hx)
 refine bodyPost_ret (v := .tuple #[.agg #[(.int .u32 c.nextBox), (.int .u32 c.nextMan), (.slice p4 LI.length c4), (.slice p2 c.mans.length c2), (.slice p3 c.names.length c3)], .int .i64 LC]) (ret_row_tmp Tryz.results99 rfl rfl (t := 52) ?_ Tryz.underlying52 rfl (by kernel_rfl)) rfl ?_
 ·exact oF
 ·exact ⟨_, rfl, ⟨_, _, _, rfl, h5, (HM.out _ kF), (HN.out _ kF), HWB.out, HWM.out⟩, kF⟩
set_option maxRecDepth 100000 in
set_option maxHeartbeats 4000000 in
theorem zapply5 {S0 : Nat → Prop} (v : Value) (c : JCat) (r : JRec) (rv : Value) (w : World) (h : CatOff S0 w v c) (hS0 : ∀ x, S0 x → x < w.heap.size) (hmc : mayC c) (hrr : RunsIn w rv r.runs 0 w.heap.size) (hf : r.fits) (hwf : ∀ a ∈ r.runs, WfRun a) (hmr : mayR r = true) (hk : r.kind = 5) :
  Calls Tryz.prog 99 #[v, .agg (r.cells rv)] w (ApplySays S0 (oneX c r) w) := by
 have hone : oneX c r = ({ c with mans := (goesX c.mans r.item).1 }, (goesX c.mans r.item).2) := by
  unfold oneX
  rw [if_neg (by rw [hk]; decide)]
  rw [if_neg (by rw [hk]; decide)]
  rw [if_neg (by rw [hk]; decide)]
  rw [if_neg (by rw [hk]; decide)]
  rw [if_pos hk]
 rw [hone]
 have hrl : r.runs.length ≤ 1000000 := by have := may_runs hmr; omega
 have hid := may_id hmr
 have hid0 : 0 ≤ r.id := (bd32 hf.2.1).1
 obtain ⟨vb, vm, vn, rfl, hb, hm, hn, hwb, hwm⟩ := h
 have HB := Lib.hid (fun W (q : Kept [] w W) => hb.kept0 q)
 have HM := Lib.hid (fun W (q : Kept [] w W) => hm.kept0 q)
 have HN := Lib.hid (fun W (q : Kept [] w W) => hn.kept0 q)
 obtain ⟨p1, c1, rfl⟩ := hb.plain.shape
 obtain ⟨p2, c2, rfl⟩ := hm.plain.shape
 obtain ⟨p3, c3, rfl⟩ := hn.plain.shape
 obtain ⟨pr, cr, rfl⟩ := hrr.shape
 unfold JRec.cells
 have HC : Hid (∀ W, Kept [] w W → w.heap.size + 3 ≤ W.heap.size → Calls Tryz.prog 172 #[.slice p2 c.mans.length c2, .agg #[.int .i64 r.kind, .int .u32 r.id, .string (bs r.name), .int .i64 r.size, .slice pr r.runs.length cr]] W (ComesSays (fun x => S0 x ∨ (x = w.heap.size ∨ x = w.heap.size + 2)) (goesX c.mans r.item) W)) := Lib.hid (fun W q hsz => by
  have hSW : ∀ x, (S0 x ∨ (x = w.heap.size ∨ x = w.heap.size + 2)) → x < W.heap.size := fun x hx => by
   rcases hx with hx | hx
   ·have := hS0 x hx; omega
   ·omega
  have hh := zgoes _ _ r (.slice pr r.runs.length cr) W ((hm.more (fun x hx => by omega)).kept0 q) hSW (by have := hmc.mans.1; omega) hmc.mans.2.2 ⟨_, _, _, rfl⟩
  unfold JRec.cells at hh
  exact hh)
 unfold ComesSays at HC
 obtain ⟨LL, hLL⟩ : ∃ L, goesX c.mans r.item = L := ⟨_, rfl⟩
 rw [hLL] at HC ⊢
 obtain ⟨LI, LC⟩ := LL
 simp only at HC ⊢
 have hnb1 := (bd32 hwb)
 have hnm1 := (bd32 hwm)
 have HW1 : Hid ((Lit.int .u32 (r.id + 1)).wf = true) := Lib.hid (wf32 (by omega) (by omega))
 have HW2 : Hid ((Lit.int .u32 (max c.nextMan (r.id + 1))).wf = true) := Lib.hid (wf32 (by omega) (by omega))
 have HWB := Lib.hid hwb
 have HWM := Lib.hid hwm
 obtain ⟨oA, oB, oC⟩ := own_threeC w #[.int .u32 c.nextBox, .int .u32 c.nextMan, .slice p1 c.boxes.length c1, .slice p2 c.mans.length c2, .slice p3 c.names.length c3] #[.int .i64 5, .int .u32 r.id, .string (bs r.name), .int .i64 r.size, .slice pr r.runs.length cr] #[.int .u32 0, .int .u32 0, .slice none 0 0, .slice none 0 0, .slice none 0 0] 52 102 52
 have k0 : Kept [] w (((w.alloc (.cells #[.int .u32 c.nextBox, .int .u32 c.nextMan, .slice p1 c.boxes.length c1, .slice p2 c.mans.length c2, .slice p3 c.names.length c3] 52)).alloc (.cells #[.int .i64 5, .int .u32 r.id, .string (bs r.name), .int .i64 r.size, .slice pr r.runs.length cr] 102)).alloc (.cells #[.int .u32 0, .int .u32 0, .slice none 0 0, .slice none 0 0, .slice none 0 0] 52)) := (((Kept.refl _ _).alloc _).alloc _).alloc _
 have hw1 : IntKind.u32.wrap (r.id + 1) = r.id + 1 := wrap32_of (by omega) (by omega)
 obtain ⟨x0, x1, x2, x3, x4⟩ := oA.k5
 obtain ⟨y0, y1, y2, y3, y4⟩ := oB.k5
 obtain ⟨mx, hmx⟩ : ∃ m, max c.nextMan (r.id + 1) = m := ⟨_, rfl⟩
 have HMX := Lib.hid hmx
 have OA := Lib.hid oA
 have OB := Lib.hid oB
 have OC := Lib.hid oC
 have K0 := Lib.hid k0
 rw [hk] at HC ⊢
 clear oA oB oC k0 hLL hone hb hm hn hrr hf hwf hmr hmc hwb hwm hnb1 hnm1
 go_enter Tryz.func99, Tryz.ntmps99
 go_wp2_with fail
 refine (HC.out _ K0.out (by simp)).mono ?_; rintro e w4 ⟨v4, rfl, h4, k4⟩
 have H4 := Lib.hid h4
 have K4 := Lib.hid (K0.out.trans k4)
 obtain ⟨p4, c4, rfl⟩ := h4.plain.shape
 have oA4 := k4.own OA.out (by simp)
 have oB4 := k4.own OB.out (by simp)
 have oC4 := k4.own OC.out (by simp)
 obtain ⟨x0, x1, x2, x3, x4⟩ := oA4.k5
 obtain ⟨y0, y1, y2, y3, y4⟩ := oB4.k5
 obtain ⟨z0, z1, z2, z3, z4⟩ := oC4.k5
 obtain ⟨f0, f1, f2, f3, f4⟩ := oA4.y5
 obtain ⟨g0, g1, g2, g3, g4⟩ := oC4.y5
 have OA4 := Lib.hid oA4
 have OC4 := Lib.hid oC4
 clear h4 oA4 oB4 oC4
 go_wp2_with fail
 have hne : w.heap.size + 2 ≠ w.heap.size := by omega
 have oF := Own.put5 ((OC4.out).other (p := ⟨w.heap.size, 3, none⟩) hne (.slice p4 LI.length c4)) (.int .u32 c.nextBox) (.int .u32 c.nextMan) (.slice p1 c.boxes.length c1) (.slice p4 LI.length c4) (.slice p3 c.names.length c3)
 have kF : Kept [] w ((((((w4.setCell ⟨w.heap.size, 3, none⟩ (.slice p4 LI.length c4)).setCell ⟨w.heap.size + 2, 0, none⟩ (.int .u32 c.nextBox)).setCell ⟨w.heap.size + 2, 1, none⟩ (.int .u32 c.nextMan)).setCell ⟨w.heap.size + 2, 2, none⟩ (.slice p1 c.boxes.length c1)).setCell ⟨w.heap.size + 2, 3, none⟩ (.slice p4 LI.length c4)).setCell ⟨w.heap.size + 2, 4, none⟩ (.slice p3 c.names.length c3)) := Kept.set5s ((K4.out).setCell (p := ⟨w.heap.size, 3, none⟩) (Or.inr (Nat.le_refl _)) (.slice p4 LI.length c4)) (Or.inr (by omega)) _ _ _ _ _
 have kT : Kept [w.heap.size, w.heap.size + 2] w4 ((((((w4.setCell ⟨w.heap.size, 3, none⟩ (.slice p4 LI.length c4)).setCell ⟨w.heap.size + 2, 0, none⟩ (.int .u32 c.nextBox)).setCell ⟨w.heap.size + 2, 1, none⟩ (.int .u32 c.nextMan)).setCell ⟨w.heap.size + 2, 2, none⟩ (.slice p1 c.boxes.length c1)).setCell ⟨w.heap.size + 2, 3, none⟩ (.slice p4 LI.length c4)).setCell ⟨w.heap.size + 2, 4, none⟩ (.slice p3 c.names.length c3)) := Kept.set5s ((Kept.refl _ _).setCell (p := ⟨w.heap.size, 3, none⟩) (Or.inl (by simp)) (.slice p4 LI.length c4)) (Or.inl (by simp)) _ _ _ _ _
 have h5 := (H4.out.keptT kT (fun x hx => by simp at hx; rcases hx with rfl | rfl; exact Or.inr (Or.inl rfl); exact Or.inr (Or.inr rfl))).weaken (T := S0) (fun x hx => Or.inl hx)
 refine bodyPost_ret (v := .tuple #[.agg #[(.int .u32 c.nextBox), (.int .u32 c.nextMan), (.slice p1 c.boxes.length c1), (.slice p4 LI.length c4), (.slice p3 c.names.length c3)], .int .i64 LC]) (ret_row_tmp Tryz.results99 rfl rfl (t := 52) ?_ Tryz.underlying52 rfl (by kernel_rfl)) rfl ?_
 ·exact oF
 ·exact ⟨_, rfl, ⟨_, _, _, rfl, (HB.out _ kF), h5, (HN.out _ kF), HWB.out, HWM.out⟩, kF⟩
set_option maxRecDepth 100000 in
set_option maxHeartbeats 4000000 in
theorem zapply6 {S0 : Nat → Prop} (v : Value) (c : JCat) (r : JRec) (rv : Value) (w : World) (h : CatOff S0 w v c) (hS0 : ∀ x, S0 x → x < w.heap.size) (hmc : mayC c) (hrr : RunsIn w rv r.runs 0 w.heap.size) (hf : r.fits) (hwf : ∀ a ∈ r.runs, WfRun a) (hmr : mayR r = true) (hk : r.kind = 6) :
  Calls Tryz.prog 99 #[v, .agg (r.cells rv)] w (ApplySays S0 (oneX c r) w) := by
 have hone : oneX c r = ({ c with names := (goesX c.names r.item).1 }, (goesX c.names r.item).2) := by
  unfold oneX
  rw [if_neg (by rw [hk]; decide)]
  rw [if_neg (by rw [hk]; decide)]
  rw [if_neg (by rw [hk]; decide)]
  rw [if_neg (by rw [hk]; decide)]
  rw [if_neg (by rw [hk]; decide)]
 rw [hone]
 have hrl : r.runs.length ≤ 1000000 := by have := may_runs hmr; omega
 have hid := may_id hmr
 have hid0 : 0 ≤ r.id := (bd32 hf.2.1).1
 obtain ⟨vb, vm, vn, rfl, hb, hm, hn, hwb, hwm⟩ := h
 have HB := Lib.hid (fun W (q : Kept [] w W) => hb.kept0 q)
 have HM := Lib.hid (fun W (q : Kept [] w W) => hm.kept0 q)
 have HN := Lib.hid (fun W (q : Kept [] w W) => hn.kept0 q)
 obtain ⟨p1, c1, rfl⟩ := hb.plain.shape
 obtain ⟨p2, c2, rfl⟩ := hm.plain.shape
 obtain ⟨p3, c3, rfl⟩ := hn.plain.shape
 obtain ⟨pr, cr, rfl⟩ := hrr.shape
 unfold JRec.cells
 have HC : Hid (∀ W, Kept [] w W → w.heap.size + 3 ≤ W.heap.size → Calls Tryz.prog 172 #[.slice p3 c.names.length c3, .agg #[.int .i64 r.kind, .int .u32 r.id, .string (bs r.name), .int .i64 r.size, .slice pr r.runs.length cr]] W (ComesSays (fun x => S0 x ∨ (x = w.heap.size ∨ x = w.heap.size + 2)) (goesX c.names r.item) W)) := Lib.hid (fun W q hsz => by
  have hSW : ∀ x, (S0 x ∨ (x = w.heap.size ∨ x = w.heap.size + 2)) → x < W.heap.size := fun x hx => by
   rcases hx with hx | hx
   ·have := hS0 x hx; omega
   ·omega
  have hh := zgoes _ _ r (.slice pr r.runs.length cr) W ((hn.more (fun x hx => by omega)).kept0 q) hSW (by have := hmc.names.1; omega) hmc.names.2.2 ⟨_, _, _, rfl⟩
  unfold JRec.cells at hh
  exact hh)
 unfold ComesSays at HC
 obtain ⟨LL, hLL⟩ : ∃ L, goesX c.names r.item = L := ⟨_, rfl⟩
 rw [hLL] at HC ⊢
 obtain ⟨LI, LC⟩ := LL
 simp only at HC ⊢
 have hnb1 := (bd32 hwb)
 have hnm1 := (bd32 hwm)
 have HW1 : Hid ((Lit.int .u32 (r.id + 1)).wf = true) := Lib.hid (wf32 (by omega) (by omega))
 have HW2 : Hid ((Lit.int .u32 (max c.nextMan (r.id + 1))).wf = true) := Lib.hid (wf32 (by omega) (by omega))
 have HWB := Lib.hid hwb
 have HWM := Lib.hid hwm
 obtain ⟨oA, oB, oC⟩ := own_threeC w #[.int .u32 c.nextBox, .int .u32 c.nextMan, .slice p1 c.boxes.length c1, .slice p2 c.mans.length c2, .slice p3 c.names.length c3] #[.int .i64 6, .int .u32 r.id, .string (bs r.name), .int .i64 r.size, .slice pr r.runs.length cr] #[.int .u32 0, .int .u32 0, .slice none 0 0, .slice none 0 0, .slice none 0 0] 52 102 52
 have k0 : Kept [] w (((w.alloc (.cells #[.int .u32 c.nextBox, .int .u32 c.nextMan, .slice p1 c.boxes.length c1, .slice p2 c.mans.length c2, .slice p3 c.names.length c3] 52)).alloc (.cells #[.int .i64 6, .int .u32 r.id, .string (bs r.name), .int .i64 r.size, .slice pr r.runs.length cr] 102)).alloc (.cells #[.int .u32 0, .int .u32 0, .slice none 0 0, .slice none 0 0, .slice none 0 0] 52)) := (((Kept.refl _ _).alloc _).alloc _).alloc _
 have hw1 : IntKind.u32.wrap (r.id + 1) = r.id + 1 := wrap32_of (by omega) (by omega)
 obtain ⟨x0, x1, x2, x3, x4⟩ := oA.k5
 obtain ⟨y0, y1, y2, y3, y4⟩ := oB.k5
 obtain ⟨mx, hmx⟩ : ∃ m, max c.nextMan (r.id + 1) = m := ⟨_, rfl⟩
 have HMX := Lib.hid hmx
 have OA := Lib.hid oA
 have OB := Lib.hid oB
 have OC := Lib.hid oC
 have K0 := Lib.hid k0
 rw [hk] at HC ⊢
 clear oA oB oC k0 hLL hone hb hm hn hrr hf hwf hmr hmc hwb hwm hnb1 hnm1
 go_enter Tryz.func99, Tryz.ntmps99
 go_wp2_with fail
 refine (HC.out _ K0.out (by simp)).mono ?_; rintro e w4 ⟨v4, rfl, h4, k4⟩
 have H4 := Lib.hid h4
 have K4 := Lib.hid (K0.out.trans k4)
 obtain ⟨p4, c4, rfl⟩ := h4.plain.shape
 have oA4 := k4.own OA.out (by simp)
 have oB4 := k4.own OB.out (by simp)
 have oC4 := k4.own OC.out (by simp)
 obtain ⟨x0, x1, x2, x3, x4⟩ := oA4.k5
 obtain ⟨y0, y1, y2, y3, y4⟩ := oB4.k5
 obtain ⟨z0, z1, z2, z3, z4⟩ := oC4.k5
 obtain ⟨f0, f1, f2, f3, f4⟩ := oA4.y5
 obtain ⟨g0, g1, g2, g3, g4⟩ := oC4.y5
 have OA4 := Lib.hid oA4
 have OC4 := Lib.hid oC4
 clear h4 oA4 oB4 oC4
 go_wp2_with fail
 have hne : w.heap.size + 2 ≠ w.heap.size := by omega
 have oF := Own.put5 ((OC4.out).other (p := ⟨w.heap.size, 4, none⟩) hne (.slice p4 LI.length c4)) (.int .u32 c.nextBox) (.int .u32 c.nextMan) (.slice p1 c.boxes.length c1) (.slice p2 c.mans.length c2) (.slice p4 LI.length c4)
 have kF : Kept [] w ((((((w4.setCell ⟨w.heap.size, 4, none⟩ (.slice p4 LI.length c4)).setCell ⟨w.heap.size + 2, 0, none⟩ (.int .u32 c.nextBox)).setCell ⟨w.heap.size + 2, 1, none⟩ (.int .u32 c.nextMan)).setCell ⟨w.heap.size + 2, 2, none⟩ (.slice p1 c.boxes.length c1)).setCell ⟨w.heap.size + 2, 3, none⟩ (.slice p2 c.mans.length c2)).setCell ⟨w.heap.size + 2, 4, none⟩ (.slice p4 LI.length c4)) := Kept.set5s ((K4.out).setCell (p := ⟨w.heap.size, 4, none⟩) (Or.inr (Nat.le_refl _)) (.slice p4 LI.length c4)) (Or.inr (by omega)) _ _ _ _ _
 have kT : Kept [w.heap.size, w.heap.size + 2] w4 ((((((w4.setCell ⟨w.heap.size, 4, none⟩ (.slice p4 LI.length c4)).setCell ⟨w.heap.size + 2, 0, none⟩ (.int .u32 c.nextBox)).setCell ⟨w.heap.size + 2, 1, none⟩ (.int .u32 c.nextMan)).setCell ⟨w.heap.size + 2, 2, none⟩ (.slice p1 c.boxes.length c1)).setCell ⟨w.heap.size + 2, 3, none⟩ (.slice p2 c.mans.length c2)).setCell ⟨w.heap.size + 2, 4, none⟩ (.slice p4 LI.length c4)) := Kept.set5s ((Kept.refl _ _).setCell (p := ⟨w.heap.size, 4, none⟩) (Or.inl (by simp)) (.slice p4 LI.length c4)) (Or.inl (by simp)) _ _ _ _ _
 have h5 := (H4.out.keptT kT (fun x hx => by simp at hx; rcases hx with rfl | rfl; exact Or.inr (Or.inl rfl); exact Or.inr (Or.inr rfl))).weaken (T := S0) (fun x hx => Or.inl hx)
 refine bodyPost_ret (v := .tuple #[.agg #[(.int .u32 c.nextBox), (.int .u32 c.nextMan), (.slice p1 c.boxes.length c1), (.slice p2 c.mans.length c2), (.slice p4 LI.length c4)], .int .i64 LC]) (ret_row_tmp Tryz.results99 rfl rfl (t := 52) ?_ Tryz.underlying52 rfl (by kernel_rfl)) rfl ?_
 ·exact oF
 ·exact ⟨_, rfl, ⟨_, _, _, rfl, (HB.out _ kF), (HM.out _ kF), h5, HWB.out, HWM.out⟩, kF⟩
theorem zapply {S0 : Nat → Prop} (v : Value) (c : JCat) (r : JRec) (rv : Value) (w : World) (h : CatOff S0 w v c) (hS0 : ∀ x, S0 x → x < w.heap.size) (hmc : mayC c) (hrr : RunsIn w rv r.runs 0 w.heap.size) (hf : r.fits) (hwf : ∀ a ∈ r.runs, WfRun a) (hmr : mayR r = true) :
  Calls Tryz.prog 99 #[v, .agg (r.cells rv)] w (ApplySays S0 (oneX c r) w) := by
 rcases may_kind hmr with hk | hk | hk | hk | hk | hk
 ·exact zapply1 v c r rv w h hS0 hmc hrr hf hwf hmr hk
 ·exact zapply2 v c r rv w h hS0 hmc hrr hf hwf hmr hk
 ·exact zapply3 v c r rv w h hS0 hmc hrr hf hwf hmr hk
 ·exact zapply4 v c r rv w h hS0 hmc hrr hf hwf hmr hk
 ·exact zapply5 v c r rv w h hS0 hmc hrr hf hwf hmr hk
 ·exact zapply6 v c r rv w h hS0 hmc hrr hf hwf hmr hk
end Go.Proofs.YtdkimcnlhmhpgaaGreat
