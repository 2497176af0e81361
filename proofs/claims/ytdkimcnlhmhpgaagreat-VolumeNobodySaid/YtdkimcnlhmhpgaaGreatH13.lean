/- -/
import Derived.Test.YtdkimcnlhmhpgaaGreatH08
import Derived.Test.YtdkimcnlhmhpgaaGreatH09
import Derived.Test.YtdkimcnlhmhpgaaGreatH10
import Derived.Test.YtdkimcnlhmhpgaaGreatH12
set_option linter.unusedVariables false
set_option linter.unusedSimpArgs false
namespace Go.Proofs.YtdkimcnlhmhpgaaGreat
open Go.RowKit Go.Shelf
attribute [local go_sem] Oper.semAt_some
def PutSays (Inv : DK → World → Prop) (lim : Nat) (d : DK) (l : List (Int × Int)) (s : List UInt8) (w : World) (e : Ending) (w' : World) : Prop := e = .returned (.int .i64 (putX d l s).2) ∧ Inv (putX d l s).1 w' ∧ AsideW lim w w'
theorem putSays_of {Inv : DK → World → Prop} {lim : Nat} {d d' : DK} {l : List (Int × Int)} {s : List UInt8} {C : Int} {w w' : World} (h : putX d l s = (d', C)) (hI : Inv d' w') (hA : AsideW lim w w') : PutSays Inv lim d l s w (.returned (.int .i64 C)) w' := by
 unfold PutSays; rw [h]; exact ⟨rfl, hI, hA⟩
theorem AsideW.putD {lim : Nat} {w0 w : World} (h : AsideW lim w0 w) {D : Nat} (hD : w0.heap.size ≤ D) (o : Obj) : AsideW lim w0 (w.putObj D o) :=
 ⟨Nat.le_trans h.1 (kept_putObj w D o).size, fun g x hg hx ht => by
  have hl := (Array.getElem?_eq_some_iff.1 hx).1
  exact ((kept_putObj w D o).block g (by have := h.1; omega) (by simp; omega)).trans (h.2 g x hg hx ht)⟩
theorem pframe (x0 x1 x2 x3 x4 x5 x6 x7 x8 x9 x10 x11 x12 x13 x14 x15 x16 x17 x18 x19 x20 x21 x22 x23 x24 x25 x26 x27 x28 x29 x30 x31 x32 x33 x34 x35 x36 x37 x38 x39 x40 x41 x42 x43 x44 x45 x46 x47 x48 x49 x50 x51 x52 : Value) (ds : List Deferred) : ∃ u : Nat → Value, ({ tmps := #[x0, x1, x2, x3, x4, x5, x6, x7, x8, x9, x10, x11, x12, x13, x14, x15, x16, x17, x18, x19, x20, x21, x22, x23, x24, x25, x26, x27, x28, x29, x30, x31, x32, x33, x34, x35, x36, x37, x38, x39, x40, x41, x42, x43, x44, x45, x46, x47, x48, x49, x50, x51, x52], defers := ds } : Act) = { tmps := #[x0, x1, x2, (u 3), (u 4), (u 5), (u 6), (u 7), x8, (u 9), x10, (u 11), (u 12), (u 13), (u 14), (u 15), (u 16), (u 17), (u 18), (u 19), (u 20), (u 21), (u 22), (u 23), (u 24), (u 25), (u 26), (u 27), (u 28), (u 29), (u 30), (u 31), (u 32), (u 33), (u 34), (u 35), (u 36), (u 37), (u 38), (u 39), (u 40), (u 41), (u 42), (u 43), (u 44), (u 45), (u 46), (u 47), (u 48), (u 49), (u 50), (u 51), (u 52)], defers := ds } :=
 ⟨fun n => [x0, x1, x2, x3, x4, x5, x6, x7, x8, x9, x10, x11, x12, x13, x14, x15, x16, x17, x18, x19, x20, x21, x22, x23, x24, x25, x26, x27, x28, x29, x30, x31, x32, x33, x34, x35, x36, x37, x38, x39, x40, x41, x42, x43, x44, x45, x46, x47, x48, x49, x50, x51, x52].getD n undef, rfl⟩
structure PutAt (Inv : DK → World → Prop) (lim : Nat) (w0 : World) (al : List Nat) (R : DK × Int) (k : Nat) (d : DK) (rs : List UInt8) (B D base : Nat) (rv : Value) (w : World) : Prop where
 inv : Inv d w
 box : Boxed w B 172 rv
 row : w.ownsRow base 3 1 rv al.length (intsV al)
 mark : w.heap[D]? = some (.deferred (some []))
 asd : AsideW lim w0 w
 lB : w0.heap.size ≤ B
 lD : w0.heap.size ≤ D
 lb : w0.heap.size ≤ base
 hk : k ≤ al.length
 here : putL (al.drop k) d rs = R
 ops : d.ops + (al.length - k) ≤ 99000
 waits : d.waits.length + (al.length - k) ≤ 10000
 rsl : rs.length ≤ 1048576
def PutJ (Inv : DK → World → Prop) (lim b : Nat) (w0 : World) (v : Value) (al : List Nat) (R : DK × Int) (a' : Act) (w' : World) : Prop :=
 ∃ (k : Nat) (d' : DK) (rs : List UInt8) (B D base : Nat) (rv : Value) (sv : ByteArray) (x : Int), sv = bs rs ∧ x = (k : Int) ∧ (∃ u : Nat → Value, a' = { tmps := #[.pointer (some ⟨b, 0, none⟩), v, .string sv, (u 3), (u 4), (u 5), (u 6), (u 7), .pointer (some ⟨B, 0, none⟩), (u 9), .int .i64 x, (u 11), (u 12), (u 13), (u 14), (u 15), (u 16), (u 17), (u 18), (u 19), (u 20), (u 21), (u 22), (u 23), (u 24), (u 25), (u 26), (u 27), (u 28), (u 29), (u 30), (u 31), (u 32), (u 33), (u 34), (u 35), (u 36), (u 37), (u 38), (u 39), (u 40), (u 41), (u 42), (u 43), (u 44), (u 45), (u 46), (u 47), (u 48), (u 49), (u 50), (u 51), (u 52)], defers := [{ target := .collected D, args := #[] }] }) ∧ PutAt Inv lim w0 al R k d' rs B D base rv w'
def PutM (al : List Nat) (a' : Act) (_ : World) : Nat := al.length - (intOf (a'.tmps.getD 10 undef)).toNat
theorem PutAt.keep {Inv : DK → World → Prop} {b lim : Nat} (O : BOps Inv b lim) {al : List Nat} {R : DK × Int} {k : Nat} {d : DK} {rs : List UInt8} {B D base : Nat} {rv : Value} {w0 w w' : World} (h : PutAt Inv lim w0 al R k d rs B D base rv w) (q : Kept [] w w') : PutAt Inv lim w0 al R k d rs B D base rv w' :=
 ⟨O.ops.keep h.inv q, (q.block B (by have := (Array.getElem?_eq_some_iff.1 h.box).1; exact this) (by simp)).trans h.box, ownsRow_kept h.row q (by simp), (q.block D (Array.getElem?_eq_some_iff.1 h.mark).1 (by simp)).trans h.mark, h.asd.trans (q.asideW lim), h.lB, h.lD, h.lb, h.hk, h.here, h.ops, h.waits, h.rsl⟩
theorem PutAt.at_ {Inv : DK → World → Prop} {lim : Nat} {al : List Nat} {R : DK × Int} {k : Nat} {d : DK} {rs : List UInt8} {B D base : Nat} {rv : Value} {w0 w : World} (h : PutAt Inv lim w0 al R k d rs B D base rv w) (hk : k < al.length) :
  ∃ g c, rv = .slice (some ⟨g, 0, none⟩) al.length c ∧ w.cell? ⟨B, 0, none⟩ = some (.slice (some ⟨g, 0, none⟩) al.length c) ∧ w.cell? ⟨g, k, none⟩ = some (.int .i64 ((al[k] : Nat) : Int)) := by
 have hb := h.box.cell
 rcases h.row.2 with ⟨_, h0⟩ | ⟨g, c, cur, rfl, _⟩
 ·omega
 ·refine ⟨g, c, rfl, hb, ?_⟩
  have := h.row.cells (g := g) rfl k (.int .i64 ((al[k] : Nat) : Int)) (by simp [intsV, hk])
  rwa [addr_add] at this
theorem pframe2 (x0 x1 x2 x3 x4 x5 x6 x7 x8 x9 x10 x11 x12 x13 x14 x15 x16 x17 x18 x19 x20 x21 x22 x23 x24 x25 x26 x27 x28 x29 x30 x31 x32 x33 x34 x35 x36 x37 x38 x39 x40 x41 x42 x43 x44 x45 x46 x47 x48 x49 x50 x51 x52 : Value) (ds : List Deferred) : ∃ u : Nat → Value, ({ tmps := #[x0, x1, x2, x3, x4, x5, x6, x7, x8, x9, x10, x11, x12, x13, x14, x15, x16, x17, x18, x19, x20, x21, x22, x23, x24, x25, x26, x27, x28, x29, x30, x31, x32, x33, x34, x35, x36, x37, x38, x39, x40, x41, x42, x43, x44, x45, x46, x47, x48, x49, x50, x51, x52], defers := ds } : Act) = { tmps := #[x0, x1, x2, (u 3), (u 4), (u 5), (u 6), (u 7), x8, (u 9), x10, x11, x12, (u 13), (u 14), (u 15), (u 16), (u 17), (u 18), (u 19), (u 20), (u 21), (u 22), (u 23), (u 24), (u 25), (u 26), (u 27), (u 28), (u 29), (u 30), (u 31), (u 32), (u 33), (u 34), (u 35), (u 36), (u 37), (u 38), (u 39), (u 40), (u 41), (u 42), (u 43), (u 44), (u 45), (u 46), (u 47), (u 48), (u 49), (u 50), (u 51), (u 52)], defers := ds } :=
 ⟨fun n => [x0, x1, x2, x3, x4, x5, x6, x7, x8, x9, x10, x11, x12, x13, x14, x15, x16, x17, x18, x19, x20, x21, x22, x23, x24, x25, x26, x27, x28, x29, x30, x31, x32, x33, x34, x35, x36, x37, x38, x39, x40, x41, x42, x43, x44, x45, x46, x47, x48, x49, x50, x51, x52].getD n undef, rfl⟩
def PutR (Inv : DK → World → Prop) (lim b B D : Nat) (v : Value) (rs : List UInt8) (k : Nat) (nn C : Int) (dn : DK) (w' : World) (a' : Act) (w3 : World) : Prop :=
 (∃ u' : Nat → Value, a' = { tmps := #[.pointer (some ⟨b, 0, none⟩), v, .string (bs rs), (u' 3), (u' 4), (u' 5), (u' 6), (u' 7), .pointer (some ⟨B, 0, none⟩), (u' 9), .int .i64 (k : Int), .int .i64 (nn : Int), .int .i64 C, (u' 13), (u' 14), (u' 15), (u' 16), (u' 17), (u' 18), (u' 19), (u' 20), (u' 21), (u' 22), (u' 23), (u' 24), (u' 25), (u' 26), (u' 27), (u' 28), (u' 29), (u' 30), (u' 31), (u' 32), (u' 33), (u' 34), (u' 35), (u' 36), (u' 37), (u' 38), (u' 39), (u' 40), (u' 41), (u' 42), (u' 43), (u' 44), (u' 45), (u' 46), (u' 47), (u' 48), (u' 49), (u' 50), (u' 51), (u' 52)], defers := [{ target := .collected D, args := #[] }] }) ∧ ∃ W, Kept [] w' W ∧ AsideW lim W w3 ∧ Inv dn w3
theorem putL_step {al : List Nat} {k : Nat} (h : k < al.length) (d : DK) (rs : List UInt8) : putL (al.drop k) d rs = if wCode d al[k] (chunk rs) = 0 then putL (al.drop (k + 1)) (wNext d al[k] (chunk rs)) (rs.drop 128) else (wNext d al[k] (chunk rs), wCode d al[k] (chunk rs)) := by
 rw [List.drop_eq_getElem_cons h, putL]
theorem box_at {w : World} {B base g c : Nat} {al : List Nat} (hb : Boxed w B 172 (.slice (some ⟨g, 0, none⟩) al.length c)) (hr : w.ownsRow base 3 1 (.slice (some ⟨g, 0, none⟩) al.length c) al.length (intsV al)) {k : Nat} (hk : k < al.length) :
  w.cell? ⟨B, 0, none⟩ = some (.slice (some ⟨g, 0, none⟩) al.length c) ∧ w.cell? ⟨g, k, none⟩ = some (.int .i64 ((al[k] : Nat) : Int)) := by
 refine ⟨hb.cell, ?_⟩
 have := hr.cells (g := g) rfl k (.int .i64 ((al[k] : Nat) : Int)) (by simp [intsV, hk])
 rwa [addr_add] at this
section
variable {Inv : DK → World → Prop} {b lim : Nat} {al : List Nat} {R : DK × Int} {k : Nat} {d : DK} {rs : List UInt8} {B D base : Nat} {rv : Value} {w0 w W W3 : World}
theorem PutAt.boxA (O : BOps Inv b lim) (h : PutAt Inv lim w0 al R k d rs B D base rv w) (hlim : lim ≤ w0.heap.size) (q : Kept [] w W) (a : AsideW lim W W3) : Boxed W3 B 172 rv := a.own ((h.keep O q).box) (by have := h.lB; omega) (by decide)
theorem PutAt.rowA (O : BOps Inv b lim) (h : PutAt Inv lim w0 al R k d rs B D base rv w) (hlim : lim ≤ w0.heap.size) (q : Kept [] w W) (a : AsideW lim W W3) : W3.ownsRow base 3 1 rv al.length (intsV al) := a.row ((h.keep O q).row) (by have := h.lb; omega) (by decide)
theorem PutAt.markA (O : BOps Inv b lim) (h : PutAt Inv lim w0 al R k d rs B D base rv w) (hlim : lim ≤ w0.heap.size) (q : Kept [] w W) (a : AsideW lim W W3) : W3.heap[D]? = some (.deferred (some [])) := a.obj ((h.keep O q).mark) (by have := h.lD; omega) (fun _ _ _ e => by cases e)
theorem PutAt.next (O : BOps Inv b lim) (h : PutAt Inv lim w0 al R k d rs B D base rv w) (hlim : lim ≤ w0.heap.size) (hk : k < al.length) (q : Kept [] w W) (a : AsideW lim W W3) (hI : Inv (wNext d al[k] (chunk rs)) W3) (hC : wCode d al[k] (chunk rs) = 0) :
  PutAt Inv lim w0 al R (k + 1) (wNext d al[k] (chunk rs)) (rs.drop 128) B D base rv W3 := by
 have hh := h.here
 rw [putL_step hk, if_pos hC] at hh
 have ho := wNext_ops d (al[k] : Int) (chunk rs)
 have h1 := h.ops
 have h2 := h.waits
 exact ⟨hI, h.boxA O hlim q a, h.rowA O hlim q a, h.markA O hlim q a, (h.asd.trans (q.asideW lim)).trans a, h.lB, h.lD, h.lb, hk, hh, by omega, by omega, by rw [List.length_drop]; have := h.rsl; omega⟩
theorem PutAt.stop (O : BOps Inv b lim) (h : PutAt Inv lim w0 al R k d rs B D base rv w) (hlim : lim ≤ w0.heap.size) (hk : k < al.length) (q : Kept [] w W) (a : AsideW lim W W3) (hI : Inv (wNext d al[k] (chunk rs)) W3) (hC : ¬ wCode d al[k] (chunk rs) = 0) :
  W3.heap[D]? = some (.deferred (some [])) ∧ R = (wNext d al[k] (chunk rs), wCode d al[k] (chunk rs)) ∧ Inv (wNext d al[k] (chunk rs)) (W3.putObj D (.deferred none)) ∧ AsideW lim w0 (W3.putObj D (.deferred none)) := by
 have hh := h.here
 rw [putL_step hk, if_neg hC] at hh
 have hm := h.markA O hlim q a
 exact ⟨hm, hh.symm, O.putD hI hm (kept_putObj _ _ _) (by have := h.lD; omega), AsideW.putD ((h.asd.trans (q.asideW lim)).trans a) h.lD _⟩
theorem PutAt.fin (O : BOps Inv b lim) (h : PutAt Inv lim w0 al R k d rs B D base rv w) (hlim : lim ≤ w0.heap.size) (hk : k = al.length) (q : Kept [] w W) :
  W.heap[D]? = some (.deferred (some [])) ∧ R = (d, 0) ∧ Inv d (W.putObj D (.deferred none)) ∧ AsideW lim w0 (W.putObj D (.deferred none)) := by
 have hh := h.here
 rw [hk, List.drop_length] at hh
 have h' := h.keep O q
 exact ⟨h'.mark, hh.symm, O.putD h'.inv h'.mark (kept_putObj _ _ _) (by have := h.lD; omega), AsideW.putD h'.asd h.lD _⟩
end
set_option maxRecDepth 100000 in
set_option maxHeartbeats 1000000 in
theorem bput {Inv : DK → World → Prop} {b lim : Nat} (O : BOps Inv b lim) (d : DK) (v : Value) (l : List (Int × Int)) (s : List UInt8) (lo hi : Nat) (w : World) (hI : Inv d w) (hlim : lim ≤ w.heap.size) (h : RunsIn w v l lo hi) (hl : l.length ≤ 1000000) (hwf : ∀ a ∈ l, WfRun a)
  (hs : s.length ≤ 1048576) (ho : d.ops ≤ 90000) (hw : d.waits.length ≤ 1800) :
  Calls Tryz.prog 49 #[.pointer (some ⟨b, 0, none⟩), v, .string (bs s)] w (PutSays Inv lim d l s w) := by
 have hsz : (bs s).size = s.length := bs_size s
 have HC := bcheck O.ops d v l s.length lo hi w hI h hl hwf (wf_few (by omega))
 have HE : ∀ W, Kept [] w W → Calls Tryz.prog 105 #[v] W fun e w' => ∃ f, e = .returned f ∧ Kept [] W w' ∧ TellsR 5 w.heap.size l f w' := fun W k => bEach0 5 (by omega) w.heap.size v l 0 w.heap.size W (h.wide.kept0 k) hl hwf (Nat.le_refl _) k.size
 clear h hwf
 by_cases hG : getCode d l s.length = 0
 ·have hX : FitX l d.stand.length s.length ∧ ¬ d.down = true := by
   unfold getCode at hG
   by_cases hf : FitX l d.stand.length s.length
   ·rw [if_pos hf] at hG
    by_cases hd : d.down = true
    ·rw [if_pos hd] at hG; omega
    ·exact ⟨hf, hd⟩
   ·rw [if_neg hf] at hG; omega
  have hPX : putX d l s = putL (secsL l) d s := by unfold putX; rw [if_pos hX.1, if_neg hX.2]
  have hsecs := hX.1.secs
  have hsE : secsE l = secsL l := secsE_fit hX.1
  have hal : (secsL l).length ≤ 8192 := by rw [← hsE]; exact secsE_le l
  rw [hG] at HC
  have hHI := fun W (k : Kept [] w W) => O.ops.keep hI k
  clear hX hsecs hI hG
  have k0 := Kept.refl [] w
  have HPX := Lib.hid hPX
  obtain ⟨i0, q0, q1, q2, q3⟩ := infoInt
  refine (callsIn_wide (n := 6)).1 ?_
  refine callsIn_of_wp_marks Tryz.func49 rfl trivial ?_ rfl
  simp only [Tryz.ntmps49, List.size_toArray, List.length_cons, List.length_nil, Nat.reduceAdd, Nat.reduceSub, Array.replicate_succ, Array.replicate_zero, List.push_toArray, List.append_toArray, List.nil_append, List.cons_append]
  refine wpIn_wide.2 ?_
  go_wp2_with fail
  refine wp_scope_jumps2 0 (PutJ Inv lim b w v (secsL l) (putL (secsL l) d s)) (PutM (secsL l)) rfl ?_ ?_
  ·rintro a' w' ⟨k, d', rs, B, D, base, rv, sv, x, rfl, rfl, ⟨u, rfl⟩, hP⟩
   have hzr : (bs rs).size = rs.length := bs_size rs
   by_cases hlt : k < (secsL l).length
   ·have hrsl : rs.length ≤ 1048576 := hP.rsl
    obtain ⟨g, c, rfl, cB, cg⟩ := hP.at_ hlt
    have hwr := fun W (q : Kept [] w' W) => O.writeB (((secsL l)[k] : Nat) : Int) (chunk rs) (O.ops.keep hP.inv q) (by have := hP.ops; omega) (by have := hP.waits; omega)
    have HS : Hid (∀ W, Kept [] w' W → W.cell? ⟨B, 0, none⟩ = some (.slice (some ⟨g, 0, none⟩) (secsL l).length c) ∧ W.cell? ⟨g, k, none⟩ = some (.int .i64 (((secsL l)[k] : Nat) : Int))) := Lib.hid (fun W q => box_at (hP.keep O q).box (hP.keep O q).row hlt)
    have HS3 : Hid (∀ W W3, Kept [] w' W → AsideW lim W W3 → W3.cell? ⟨B, 0, none⟩ = some (.slice (some ⟨g, 0, none⟩) (secsL l).length c) ∧ W3.cell? ⟨g, k, none⟩ = some (.int .i64 (((secsL l)[k] : Nat) : Int))) := Lib.hid (fun W W3 q a => box_at (hP.boxA O hlim q a) (hP.rowA O hlim q a) hlt)
    have HNX : Hid (∀ W W3, Kept [] w' W → AsideW lim W W3 → Inv (wNext d' (((secsL l)[k] : Nat) : Int) (chunk rs)) W3 → wCode d' (((secsL l)[k] : Nat) : Int) (chunk rs) = 0 → PutAt Inv lim w (secsL l) (putL (secsL l) d s) (k + 1) (wNext d' (((secsL l)[k] : Nat) : Int) (chunk rs)) (rs.drop 128) B D base (.slice (some ⟨g, 0, none⟩) (secsL l).length c) W3) := Lib.hid (fun W W3 q a hI hC => hP.next O hlim hlt q a hI hC)
    have HEND : Hid (∀ W W3, Kept [] w' W → AsideW lim W W3 → Inv (wNext d' (((secsL l)[k] : Nat) : Int) (chunk rs)) W3 → ¬ wCode d' (((secsL l)[k] : Nat) : Int) (chunk rs) = 0 → W3.heap[D]? = some (.deferred (some [])) ∧ PutSays Inv lim d l s w (.returned (.int .i64 (wCode d' (((secsL l)[k] : Nat) : Int) (chunk rs)))) (W3.putObj D (.deferred none))) := Lib.hid (fun W W3 q a hI hC => by
     obtain ⟨e1, e2, e3, e4⟩ := hP.stop O hlim hlt q a hI hC
     exact ⟨e1, putSays_of (HPX.out.trans e2) e3 e4⟩)
    generalize wCode d' (((secsL l)[k] : Nat) : Int) (chunk rs) = C at *
    generalize wNext d' (((secsL l)[k] : Nat) : Int) (chunk rs) = dn at *
    generalize (secsL l)[k] = y at *
    have HW := Lib.hid hwr
    have HLT := Lib.hid hlt
    have i1 : ((k : Int) == ((secsL l).length : Int)) = false := by rw [beq_eq_false_iff_ne]; omega
    have i2 : (k : Int) < (secsL l).length := by omega
    have i3 : ¬ ((k : Int) = (secsL l).length) := by omega
    have HWK : Hid (wrap64 ((k : Int) + 1) = (k : Int) + 1) := Lib.hid (IntWalk.wrap64_in _ (by omega))
    clear hwr hP
    rcases (by omega : rs.length ≤ 128 ∨ 128 < rs.length) with g1 | g1
    ·have hpf := fun W => packFill ((bs rs).extract 0 rs.length) 128 W (by rw [bs_extract, bs_size]; simp; omega) (by omega)
     have ech : fillL ((bs rs).extract 0 rs.length).data.toList 128 = chunk rs := by
      rw [bs_extract, bs_data]; unfold chunk
      rw [List.take_of_length_le g1]; simp
     rw [ech] at hpf
     have HPF := Lib.hid hpf
     have hdr : Hid (ByteArray.empty = bs (rs.drop 128)) := by
      show _ = _; rw [List.drop_of_length_le g1]; rfl
     have g2 : (rs.length : Int) ≤ 128 := by omega
     have hmn : min (rs.length : Int) 128 = rs.length := by omega
     clear hpf ech
     go_wp2_with fail
     have kk : Kept [] w' w'.drew := (Kept.refl _ _).drew
     refine wp_only (F := PutR Inv lim b B D v rs k ((rs.length : Nat) : Int) C dn w') ?_ ?_
     ·refine wp_region_held_drew (S := (fun W => W.cell? ⟨B, 0, none⟩ = some (.slice (some ⟨g, 0, none⟩) (secsL l).length c) ∧ W.cell? ⟨g, k, none⟩ = some (.int .i64 ((y : Nat) : Int)))) (by kernel_rfl) (by first | exact HS.out _ kk | go_keep) (fun hHeld => ?_)
      refine take_at (i := 0) (d := some 35) (v := ?_) rfl rfl (by kernel_rfl) (by kernel_rfl) (by kernel_rfl) (fun _ _ _ h => nomatch h.1) (Or.inl ⟨by rfl, ?_⟩) (by assumption) ?_
      rotate_left
      ·(intro w hSw; (try dsimp only at hSw); go_simp; try with_reducible rfl)
      try simp only [Act.put, List.setIfInBounds_toArray, List.set_cons_zero, List.set_cons_succ]
      refine take_at (i := 1) (d := some 36) (v := ?_) rfl rfl (by kernel_rfl) (by kernel_rfl) (by kernel_rfl) (fun _ _ _ h => nomatch h.1) (Or.inl ⟨by rfl, ?_⟩) (by assumption) ?_
      rotate_left
      ·(intro w hSw; (try dsimp only at hSw); go_simp; try with_reducible rfl)
      try simp only [Act.put, List.setIfInBounds_toArray, List.set_cons_zero, List.set_cons_succ]
      refine take_at (i := 2) (d := some 37) (v := ?_) rfl rfl (by kernel_rfl) (by kernel_rfl) (by kernel_rfl) (fun _ _ _ h => nomatch h.1) (Or.inl ⟨by rfl, ?_⟩) (by assumption) ?_
      rotate_left
      ·(intro w hSw; (try dsimp only at hSw); go_simp; try with_reducible rfl)
      try simp only [Act.put, List.setIfInBounds_toArray, List.set_cons_zero, List.set_cons_succ]
      refine take_at (i := 3) (d := some 38) (v := ?_) rfl rfl (by kernel_rfl) (by kernel_rfl) (by kernel_rfl) (fun _ _ _ h => nomatch h.1) (Or.inl ⟨by rfl, ?_⟩) (by assumption) ?_
      rotate_left
      ·(intro w hSw; (try dsimp only at hSw); go_simp; try with_reducible rfl)
      try simp only [Act.put, List.setIfInBounds_toArray, List.set_cons_zero, List.set_cons_succ]
      refine take_at (i := 4) (d := some 39) (v := ?_) rfl rfl (by kernel_rfl) (by kernel_rfl) (by kernel_rfl) (fun _ _ _ h => nomatch h.1) (Or.inl ⟨by rfl, ?_⟩) (by assumption) ?_
      rotate_left
      ·(intro w hSw; (try dsimp only at hSw); go_simp; try with_reducible rfl)
      try simp only [Act.put, List.setIfInBounds_toArray, List.set_cons_zero, List.set_cons_succ]
      refine take_at (i := 5) (d := some 40) (v := ?_) rfl rfl (by kernel_rfl) (by kernel_rfl) (by kernel_rfl) (fun _ _ _ h => nomatch h.1) (Or.inl ⟨by rfl, ?_⟩) (by assumption) ?_
      rotate_left
      ·(intro w hSw; (try dsimp only at hSw); go_simp; try with_reducible rfl)
      try simp only [Act.put, List.setIfInBounds_toArray, List.set_cons_zero, List.set_cons_succ]
      refine take_at (i := 6) (d := some 41) (v := ?_) rfl rfl (by kernel_rfl) (by kernel_rfl) (by kernel_rfl) (fun _ _ _ h => nomatch h.1) (Or.inl ⟨by rfl, ?_⟩) (by assumption) ?_
      rotate_left
      ·(intro w hSw; (try dsimp only at hSw); go_simp; try with_reducible rfl)
      try simp only [Act.put, List.setIfInBounds_toArray, List.set_cons_zero, List.set_cons_succ]
      refine take_at (i := 7) (d := some 42) (v := ?_) rfl rfl (by kernel_rfl) (by kernel_rfl) (by kernel_rfl) (fun _ _ _ h => nomatch h.1) (Or.inl ⟨by rfl, ?_⟩) (by assumption) ?_
      rotate_left
      ·(intro w hSw; (try dsimp only at hSw); go_simp; try with_reducible rfl)
      try simp only [Act.put, List.setIfInBounds_toArray, List.set_cons_zero, List.set_cons_succ]
      refine wpAnyH_ready (rs := [8]) (by kernel_rfl) (by simp) ?_
      refine (AllReadyH.cons rfl (fun K hK => ?_) AllReadyH.nil)
      go_simp
      (with_reducible refine (HPF.out _).mono ?_); rintro e w2 ⟨rfl, k2⟩
      have kk := kk.trans k2
      go_wp2_with fail
      refine hK.out _ _ ?_ (fun hHeld => ?_)
      ·exact HS.out _ kk
      clear hK K
      try simp only [Act.put, List.setIfInBounds_toArray, List.set_cons_zero, List.set_cons_succ]
      refine wpAnyH_ready (rs := [9]) (by kernel_rfl) (by simp) ?_
      refine (AllReadyH.cons rfl (fun K hK => ?_) AllReadyH.nil)
      go_simp
      (with_reducible refine (HW.out _ kk).mono ?_); rintro e w3 ⟨rfl, hI3, hA3⟩
      go_wp2_with fail
      refine hK.out _ _ ?_ (fun hHeld => ?_)
      ·exact HS3.out _ _ kk hA3
      clear hK K
      try simp only [Act.put, List.setIfInBounds_toArray, List.set_cons_zero, List.set_cons_succ]
      refine take_at (i := 10) (d := some 12) (v := ?_) rfl rfl (by kernel_rfl) (by kernel_rfl) (by kernel_rfl) (fun _ _ _ h => nomatch h.1) (Or.inl ⟨by rfl, ?_⟩) (by assumption) ?_
      rotate_left
      ·(intro w hSw; (try dsimp only at hSw); go_simp; try with_reducible rfl)
      try simp only [Act.put, List.setIfInBounds_toArray, List.set_cons_zero, List.set_cons_succ]
      refine wpAnyH_done (by kernel_rfl) ?_ _
      exact ⟨rfl, pframe2 .., _, kk, hA3, hI3⟩
     rintro a3 w3 ⟨⟨u', rfl⟩, W, kk, hA3, hI3⟩
     by_cases hC : C = 0
     ·subst hC
      have HN := Lib.hid (HNX.out _ _ kk hA3 hI3 rfl)
      clear hI3 hA3 HNX HEND
      go_wp2_with fail
      go_step3
      refine ⟨rfl, ⟨k + 1, dn, rs.drop 128, B, D, base, _, _, _, hdr.out, (show (k : Int) + 1 = ((k + 1 : Nat) : Int) by omega), (pframe ..), HN.out⟩, ?_⟩
      have hh := HLT.out
      simp [PutM, intOf]; omega
     ·have HE := Lib.hid (HEND.out _ _ kk hA3 hI3 hC)
      clear hI3 hA3 HNX HEND
      go_wp2_with fail
      simp only [Exit.jump]
      exact retMD (v := .int .i64 C) HE.out.1 (by simp [results, Tryz.f49, go_sem]) HE.out.2
    ·have hpf := fun W => packFill ((bs rs).extract 0 128) 128 W (by rw [bs_extract, bs_size]; simp; omega) (by omega)
     have ech : fillL ((bs rs).extract 0 128).data.toList 128 = chunk rs := by
      rw [bs_extract, bs_data]; unfold chunk
      simp
     rw [ech] at hpf
     have HPF := Lib.hid hpf
     have hdr : Hid ((bs rs).extract 128 rs.length = bs (rs.drop 128)) := by
      show _ = _; rw [bs_extract, List.take_of_length_le (by rw [List.length_drop]; omega)]
     have g2 : (128 : Int) < rs.length := by omega
     have g3 : (128 : Int) ≤ rs.length := by omega
     have hmn : min (rs.length : Int) 128 = 128 := by omega
     clear hpf ech
     go_wp2_with fail
     have kk : Kept [] w' w'.drew := (Kept.refl _ _).drew
     refine wp_only (F := PutR Inv lim b B D v rs k (128) C dn w') ?_ ?_
     ·refine wp_region_held_drew (S := (fun W => W.cell? ⟨B, 0, none⟩ = some (.slice (some ⟨g, 0, none⟩) (secsL l).length c) ∧ W.cell? ⟨g, k, none⟩ = some (.int .i64 ((y : Nat) : Int)))) (by kernel_rfl) (by first | exact HS.out _ kk | go_keep) (fun hHeld => ?_)
      refine take_at (i := 0) (d := some 35) (v := ?_) rfl rfl (by kernel_rfl) (by kernel_rfl) (by kernel_rfl) (fun _ _ _ h => nomatch h.1) (Or.inl ⟨by rfl, ?_⟩) (by assumption) ?_
      rotate_left
      ·(intro w hSw; (try dsimp only at hSw); go_simp; try with_reducible rfl)
      try simp only [Act.put, List.setIfInBounds_toArray, List.set_cons_zero, List.set_cons_succ]
      refine take_at (i := 1) (d := some 36) (v := ?_) rfl rfl (by kernel_rfl) (by kernel_rfl) (by kernel_rfl) (fun _ _ _ h => nomatch h.1) (Or.inl ⟨by rfl, ?_⟩) (by assumption) ?_
      rotate_left
      ·(intro w hSw; (try dsimp only at hSw); go_simp; try with_reducible rfl)
      try simp only [Act.put, List.setIfInBounds_toArray, List.set_cons_zero, List.set_cons_succ]
      refine take_at (i := 2) (d := some 37) (v := ?_) rfl rfl (by kernel_rfl) (by kernel_rfl) (by kernel_rfl) (fun _ _ _ h => nomatch h.1) (Or.inl ⟨by rfl, ?_⟩) (by assumption) ?_
      rotate_left
      ·(intro w hSw; (try dsimp only at hSw); go_simp; try with_reducible rfl)
      try simp only [Act.put, List.setIfInBounds_toArray, List.set_cons_zero, List.set_cons_succ]
      refine take_at (i := 3) (d := some 38) (v := ?_) rfl rfl (by kernel_rfl) (by kernel_rfl) (by kernel_rfl) (fun _ _ _ h => nomatch h.1) (Or.inl ⟨by rfl, ?_⟩) (by assumption) ?_
      rotate_left
      ·(intro w hSw; (try dsimp only at hSw); go_simp; try with_reducible rfl)
      try simp only [Act.put, List.setIfInBounds_toArray, List.set_cons_zero, List.set_cons_succ]
      refine take_at (i := 4) (d := some 39) (v := ?_) rfl rfl (by kernel_rfl) (by kernel_rfl) (by kernel_rfl) (fun _ _ _ h => nomatch h.1) (Or.inl ⟨by rfl, ?_⟩) (by assumption) ?_
      rotate_left
      ·(intro w hSw; (try dsimp only at hSw); go_simp; try with_reducible rfl)
      try simp only [Act.put, List.setIfInBounds_toArray, List.set_cons_zero, List.set_cons_succ]
      refine take_at (i := 5) (d := some 40) (v := ?_) rfl rfl (by kernel_rfl) (by kernel_rfl) (by kernel_rfl) (fun _ _ _ h => nomatch h.1) (Or.inl ⟨by rfl, ?_⟩) (by assumption) ?_
      rotate_left
      ·(intro w hSw; (try dsimp only at hSw); go_simp; try with_reducible rfl)
      try simp only [Act.put, List.setIfInBounds_toArray, List.set_cons_zero, List.set_cons_succ]
      refine take_at (i := 6) (d := some 41) (v := ?_) rfl rfl (by kernel_rfl) (by kernel_rfl) (by kernel_rfl) (fun _ _ _ h => nomatch h.1) (Or.inl ⟨by rfl, ?_⟩) (by assumption) ?_
      rotate_left
      ·(intro w hSw; (try dsimp only at hSw); go_simp; try with_reducible rfl)
      try simp only [Act.put, List.setIfInBounds_toArray, List.set_cons_zero, List.set_cons_succ]
      refine take_at (i := 7) (d := some 42) (v := ?_) rfl rfl (by kernel_rfl) (by kernel_rfl) (by kernel_rfl) (fun _ _ _ h => nomatch h.1) (Or.inl ⟨by rfl, ?_⟩) (by assumption) ?_
      rotate_left
      ·(intro w hSw; (try dsimp only at hSw); go_simp; try with_reducible rfl)
      try simp only [Act.put, List.setIfInBounds_toArray, List.set_cons_zero, List.set_cons_succ]
      refine wpAnyH_ready (rs := [8]) (by kernel_rfl) (by simp) ?_
      refine (AllReadyH.cons rfl (fun K hK => ?_) AllReadyH.nil)
      go_simp
      (with_reducible refine (HPF.out _).mono ?_); rintro e w2 ⟨rfl, k2⟩
      have kk := kk.trans k2
      go_wp2_with fail
      refine hK.out _ _ ?_ (fun hHeld => ?_)
      ·exact HS.out _ kk
      clear hK K
      try simp only [Act.put, List.setIfInBounds_toArray, List.set_cons_zero, List.set_cons_succ]
      refine wpAnyH_ready (rs := [9]) (by kernel_rfl) (by simp) ?_
      refine (AllReadyH.cons rfl (fun K hK => ?_) AllReadyH.nil)
      go_simp
      (with_reducible refine (HW.out _ kk).mono ?_); rintro e w3 ⟨rfl, hI3, hA3⟩
      go_wp2_with fail
      refine hK.out _ _ ?_ (fun hHeld => ?_)
      ·exact HS3.out _ _ kk hA3
      clear hK K
      try simp only [Act.put, List.setIfInBounds_toArray, List.set_cons_zero, List.set_cons_succ]
      refine take_at (i := 10) (d := some 12) (v := ?_) rfl rfl (by kernel_rfl) (by kernel_rfl) (by kernel_rfl) (fun _ _ _ h => nomatch h.1) (Or.inl ⟨by rfl, ?_⟩) (by assumption) ?_
      rotate_left
      ·(intro w hSw; (try dsimp only at hSw); go_simp; try with_reducible rfl)
      try simp only [Act.put, List.setIfInBounds_toArray, List.set_cons_zero, List.set_cons_succ]
      refine wpAnyH_done (by kernel_rfl) ?_ _
      exact ⟨rfl, pframe2 .., _, kk, hA3, hI3⟩
     rintro a3 w3 ⟨⟨u', rfl⟩, W, kk, hA3, hI3⟩
     by_cases hC : C = 0
     ·subst hC
      have HN := Lib.hid (HNX.out _ _ kk hA3 hI3 rfl)
      clear hI3 hA3 HNX HEND
      go_wp2_with fail
      go_step3
      refine ⟨rfl, ⟨k + 1, dn, rs.drop 128, B, D, base, _, _, _, hdr.out, (show (k : Int) + 1 = ((k + 1 : Nat) : Int) by omega), (pframe ..), HN.out⟩, ?_⟩
      have hh := HLT.out
      simp [PutM, intOf]; omega
     ·have HE := Lib.hid (HEND.out _ _ kk hA3 hI3 hC)
      clear hI3 hA3 HNX HEND
      go_wp2_with fail
      simp only [Exit.jump]
      exact retMD (v := .int .i64 C) HE.out.1 (by simp [results, Tryz.f49, go_sem]) HE.out.2
   ·have hke : k = (secsL l).length := by have := hP.hk; omega
    have hb := hP.box.cell
    obtain ⟨pu, cu, rfl⟩ := own_shape hP.row
    obtain ⟨e1, e2, e3, e4⟩ := hP.fin O hlim hke (Kept.refl _ _)
    have HE := Lib.hid (putSays_of (HPX.out.trans e2) e3 e4)
    have HM := Lib.hid e1
    subst hke
    clear e1 e2 e3 e4 hP
    go_wp2_with fail
    simp only [Exit.jump]
    exact retMD (v := .int .i64 0) HM.out (by simp [results, Tryz.f49, go_sem]) HE.out
  ·intro PASS
   go_wp2_with fail
   refine HC.mono ?_; rintro e w1 ⟨rfl, k1⟩
   go_wp2_with fail
   refine (HE _ (k1.alloc _)).mono ?_; rintro e w2 ⟨f, rfl, k2, B1, B2, rfl, hT⟩
   go_wp2_with fail
   have k12 := (k1.alloc (.cells #[.slice none 0 0] 172)).trans k2
   have o8 : Own w2 w1.heap.size #[.slice none 0 0] 172 := k2.own (Own.new w1 _ _) (by simp)
   have hs1 : w.heap.size ≤ w1.heap.size := k1.size
   have hs2 : w1.heap.size + 1 ≤ w2.heap.size := by have := k2.size; simpa using this
   have hN8 := secsE_le l
   refine (wpIn_wide (n := 6)).1 ?_
   refine wpIn_rangeFunc_ownG rfl (by omega) (gf := 179) (lb := #[.pointer (some ⟨B1, 0, none⟩), .pointer (some ⟨B2, 0, none⟩)]) rfl trivial (enters_of Tryz.func179 (by kernel_rfl) rfl)
    hT (fun h k => KpR.trans h k) (KpR.turn (w := w2) (by omega)) (Below.refl _ w2) (fun _ => rfl)
    (fun (pre : List Nat) W => (∃ v, Boxed W w1.heap.size 172 v ∧ W.ownsRow w1.heap.size 3 1 v pre.length (intsV pre) ∧ True) ∧ Below w1.heap.size w2 W)
    (fun c (pre : List Nat) W => False)
    (OwnFrom.and (Go.Own.from (holdsRow_own w1.heap.size w1.heap.size 172 3 1 (fun pre : List Nat => pre.length) (fun pre : List Nat => intsV pre) (fun (pre : List Nat) v => True)) _) (ownFrom_below (by omega) (by omega)))
    (fun c => ownFrom_pure _ (fun pre : List Nat => False))
    ⟨⟨_, o8, World.ownsRow_nil _ _ _ _, trivial⟩, Below.refl _ w2⟩
    (fun x => { tmps := #[.pointer (some ⟨b, 0, none⟩), v, .string (bs s), undef, undef, undef, .int .i64 0, .int .i64 0, .pointer (some ⟨w1.heap.size, 0, none⟩), .int .i64 ((x : Nat) : Int), undef, undef, undef, .pointer (some ⟨b, 0, none⟩), v, .string (bs s), .int .i64 (s.length : Int), .int .i64 0, .int .i64 0, .bool false, undef, v, .func (.func 179) #[] #[.pointer (some ⟨B1, 0, none⟩), .pointer (some ⟨B2, 0, none⟩)], .int .i64 ((x : Nat) : Int), undef, undef, undef, undef, undef, undef, undef, undef, undef, undef, undef, undef, undef, undef, undef, undef, undef, undef, undef, undef, undef, undef, undef, undef, undef, undef, undef, undef, undef], defers := [] }) ?assign ?body ?done ?stop
   case assign =>
    intro l x W K hK
    gi_wp2
    exact hK
   case body =>
    rintro lp pre x W ⟨⟨u, hv, hrow, -⟩, hB⟩ hlt
    have hc := hv.cell
    have hszB := hB.size
    obtain ⟨pu, cu, rfl⟩ := own_shape hrow
    gi_wp2_with (gi_at_builtin; refine wpListIn_append_own _ rfl _ _ 172 rfl w1.heap.size 3 i0 (.int .i64 0) 1 8 Tryz.underlying172 q0 q1 q2 q3 rfl (by decide) _ _ _ rfl (hrow.alloc _) ⟨W.heap.size, 0, none⟩ 1 1 [.int .i64 ((x : Nat) : Int)] rfl rfl (cell_one_new _ _ _) (by simp [Value.oneCell']) (by unfold maxLen; omega) (by omega) (by simp; omega) ?_; intro v' w2 hown' hgrow _; obtain ⟨g', cap', rfl⟩ := ownsRow_succ hown'; obtain ⟨hv1, hv2, hr2, hk2, hb2⟩ := hv.appended (by decide) hrow (by omega) (Nat.le_refl _) hown' hgrow; have hc1 := hv1.cell; have hf1 := hv1.frozen)
    exact ⟨hk2.from _, kpr_append hv (by decide) hrow (by decide) hgrow (hb2.mono (show w.heap.size ≤ w1.heap.size by omega)), ⟨_, hv2, by simpa [intsV] using hr2, trivial⟩, hB.trans hb2⟩
   case done =>
    rintro D xs W hD rfl ⟨⟨u, hv, hrow, -⟩, hB⟩ hK
    have kW := kept_below k12 hB (by omega)
    rw [hsE] at hrow
    have hP0 : PutAt Inv lim w (secsL l) (putL (secsL l) d s) 0 d s w1.heap.size D w1.heap.size u W := ⟨hHI W kW, hv, hrow, hK, kW.asideW lim, by omega, by omega, by omega, Nat.zero_le _, rfl, by omega, by omega, hs⟩
    have HP0 := Lib.hid hP0
    clear hP0 hv hrow hK
    go_wp2_with fail
    go_step3
    rename_i hcont
    refine hcont _ _ (PASS _ _ ⟨0, d, s, w1.heap.size, D, w1.heap.size, u, bs s, 0, rfl, rfl, pframe .., HP0.out⟩)
   case stop =>
    rintro D c pre W hD hpre h hK
    exact h.elim
 ·have hG2 : putX d l s = (d, getCode d l s.length) := by
   unfold putX getCode at *
   by_cases hf : FitX l d.stand.length s.length
   ·rw [if_pos hf] at hG ⊢
    by_cases hd : d.down = true
    ·rw [if_pos hd, if_pos hf, if_pos hd]
    ·rw [if_neg hd] at hG; exact absurd rfl hG
   ·rw [if_neg hf, if_neg hf]
  have HEND : Hid (∀ W, Kept [] w W → PutSays Inv lim d l s w (.returned (.int .i64 (getCode d l s.length))) W) := Lib.hid (fun W q => putSays_of hG2 (O.ops.keep hI q) (q.asideW lim))
  clear hG2 HE
  generalize getCode d l s.length = G at *
  have e1 : (G != 0) = true := by simp [hG]
  go_enter Tryz.func49, Tryz.ntmps49
  go_wp2_with fail
  go_step3
  go_wp2_with fail
  refine HC.mono ?_; rintro e w1 ⟨rfl, k1⟩
  have HE := Lib.hid (HEND.out _ k1)
  clear HEND
  go_wp2_with fail
  rw [Exit.noGoto_ret]
  go_ret
  exact HE.out
end Go.Proofs.YtdkimcnlhmhpgaaGreat
