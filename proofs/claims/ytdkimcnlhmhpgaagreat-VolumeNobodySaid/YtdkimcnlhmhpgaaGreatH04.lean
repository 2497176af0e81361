/- -/
import Derived.Test.YtdkimcnlhmhpgaaGreatProg
import Derived.Test.YtdkimcnlhmhpgaaGreatH01
import Derived.Test.YtdkimcnlhmhpgaaGreatH02
import Derived.WalkKit
import Derived.Maps.OwnSet
import Derived.Maps.Own
import Derived.Laws.MakeOwn
import Derived.Maps.AppendAt
import Derived.Deep.AppendLies
import Derived.RegionTactic
import Derived.OwnWalk
set_option linter.unusedVariables false
set_option linter.unusedSimpArgs false
namespace Go.Proofs.YtdkimcnlhmhpgaaGreat
open Go.RowKit
theorem Own.c6 {w : World} {b : Nat} {x0 x1 x2 x3 x4 x5 : Value} {t : TypeId} (h : Own w b #[x0, x1, x2, x3, x4, x5] t) : w.cell? ⟨b, 0, none⟩ = some x0 ∧ w.cell? ⟨b, 1, none⟩ = some x1 ∧ w.cell? ⟨b, 2, none⟩ = some x2 ∧ w.cell? ⟨b, 3, none⟩ = some x3 ∧ w.cell? ⟨b, 4, none⟩ = some x4 ∧ w.cell? ⟨b, 5, none⟩ = some x5 :=
 ⟨h.cell 0 (by simp), h.cell 1 (by simp), h.cell 2 (by simp), h.cell 3 (by simp), h.cell 4 (by simp), h.cell 5 (by simp)⟩
theorem Own.z6 {w : World} {b : Nat} {x0 x1 x2 x3 x4 x5 : Value} {t : TypeId} (h : Own w b #[x0, x1, x2, x3, x4, x5] t) : w.frozen? ⟨b, 0, none⟩ = false ∧ w.frozen? ⟨b, 1, none⟩ = false ∧ w.frozen? ⟨b, 2, none⟩ = false ∧ w.frozen? ⟨b, 3, none⟩ = false ∧ w.frozen? ⟨b, 4, none⟩ = false ∧ w.frozen? ⟨b, 5, none⟩ = false :=
 ⟨h.free 0, h.free 1, h.free 2, h.free 3, h.free 4, h.free 5⟩
theorem own_eight (w : World) (A0 A1 A2 A3 A4 A5 A6 A7 : Array Value) (t0 t1 t2 t3 t4 t5 t6 t7 : TypeId) : Own ((((((((w.alloc (.cells A0 t0)).alloc (.cells A1 t1)).alloc (.cells A2 t2)).alloc (.cells A3 t3)).alloc (.cells A4 t4)).alloc (.cells A5 t5)).alloc (.cells A6 t6)).alloc (.cells A7 t7)) w.heap.size A0 t0 ∧ Own ((((((((w.alloc (.cells A0 t0)).alloc (.cells A1 t1)).alloc (.cells A2 t2)).alloc (.cells A3 t3)).alloc (.cells A4 t4)).alloc (.cells A5 t5)).alloc (.cells A6 t6)).alloc (.cells A7 t7)) (w.heap.size + 1) A1 t1 ∧ Own ((((((((w.alloc (.cells A0 t0)).alloc (.cells A1 t1)).alloc (.cells A2 t2)).alloc (.cells A3 t3)).alloc (.cells A4 t4)).alloc (.cells A5 t5)).alloc (.cells A6 t6)).alloc (.cells A7 t7)) (w.heap.size + 1 + 1) A2 t2 ∧ Own ((((((((w.alloc (.cells A0 t0)).alloc (.cells A1 t1)).alloc (.cells A2 t2)).alloc (.cells A3 t3)).alloc (.cells A4 t4)).alloc (.cells A5 t5)).alloc (.cells A6 t6)).alloc (.cells A7 t7)) (w.heap.size + 1 + 1 + 1) A3 t3 ∧ Own ((((((((w.alloc (.cells A0 t0)).alloc (.cells A1 t1)).alloc (.cells A2 t2)).alloc (.cells A3 t3)).alloc (.cells A4 t4)).alloc (.cells A5 t5)).alloc (.cells A6 t6)).alloc (.cells A7 t7)) (w.heap.size + 1 + 1 + 1 + 1) A4 t4 ∧ Own ((((((((w.alloc (.cells A0 t0)).alloc (.cells A1 t1)).alloc (.cells A2 t2)).alloc (.cells A3 t3)).alloc (.cells A4 t4)).alloc (.cells A5 t5)).alloc (.cells A6 t6)).alloc (.cells A7 t7)) (w.heap.size + 1 + 1 + 1 + 1 + 1) A5 t5 ∧ Own ((((((((w.alloc (.cells A0 t0)).alloc (.cells A1 t1)).alloc (.cells A2 t2)).alloc (.cells A3 t3)).alloc (.cells A4 t4)).alloc (.cells A5 t5)).alloc (.cells A6 t6)).alloc (.cells A7 t7)) (w.heap.size + 1 + 1 + 1 + 1 + 1 + 1) A6 t6 ∧ Own ((((((((w.alloc (.cells A0 t0)).alloc (.cells A1 t1)).alloc (.cells A2 t2)).alloc (.cells A3 t3)).alloc (.cells A4 t4)).alloc (.cells A5 t5)).alloc (.cells A6 t6)).alloc (.cells A7 t7)) (w.heap.size + 1 + 1 + 1 + 1 + 1 + 1 + 1) A7 t7 := by
 have h0 : Own (w.alloc (.cells A0 t0)) w.heap.size A0 t0 := by have := Own.new w A0 t0; simpa only [World.size_alloc] using this
 have h1 : Own ((w.alloc (.cells A0 t0)).alloc (.cells A1 t1)) (w.heap.size + 1) A1 t1 := by have := Own.new (w.alloc (.cells A0 t0)) A1 t1; simpa only [World.size_alloc] using this
 have h2 : Own (((w.alloc (.cells A0 t0)).alloc (.cells A1 t1)).alloc (.cells A2 t2)) (w.heap.size + 1 + 1) A2 t2 := by have := Own.new ((w.alloc (.cells A0 t0)).alloc (.cells A1 t1)) A2 t2; simpa only [World.size_alloc] using this
 have h3 : Own ((((w.alloc (.cells A0 t0)).alloc (.cells A1 t1)).alloc (.cells A2 t2)).alloc (.cells A3 t3)) (w.heap.size + 1 + 1 + 1) A3 t3 := by have := Own.new (((w.alloc (.cells A0 t0)).alloc (.cells A1 t1)).alloc (.cells A2 t2)) A3 t3; simpa only [World.size_alloc] using this
 have h4 : Own (((((w.alloc (.cells A0 t0)).alloc (.cells A1 t1)).alloc (.cells A2 t2)).alloc (.cells A3 t3)).alloc (.cells A4 t4)) (w.heap.size + 1 + 1 + 1 + 1) A4 t4 := by have := Own.new ((((w.alloc (.cells A0 t0)).alloc (.cells A1 t1)).alloc (.cells A2 t2)).alloc (.cells A3 t3)) A4 t4; simpa only [World.size_alloc] using this
 have h5 : Own ((((((w.alloc (.cells A0 t0)).alloc (.cells A1 t1)).alloc (.cells A2 t2)).alloc (.cells A3 t3)).alloc (.cells A4 t4)).alloc (.cells A5 t5)) (w.heap.size + 1 + 1 + 1 + 1 + 1) A5 t5 := by have := Own.new (((((w.alloc (.cells A0 t0)).alloc (.cells A1 t1)).alloc (.cells A2 t2)).alloc (.cells A3 t3)).alloc (.cells A4 t4)) A5 t5; simpa only [World.size_alloc] using this
 have h6 : Own (((((((w.alloc (.cells A0 t0)).alloc (.cells A1 t1)).alloc (.cells A2 t2)).alloc (.cells A3 t3)).alloc (.cells A4 t4)).alloc (.cells A5 t5)).alloc (.cells A6 t6)) (w.heap.size + 1 + 1 + 1 + 1 + 1 + 1) A6 t6 := by have := Own.new ((((((w.alloc (.cells A0 t0)).alloc (.cells A1 t1)).alloc (.cells A2 t2)).alloc (.cells A3 t3)).alloc (.cells A4 t4)).alloc (.cells A5 t5)) A6 t6; simpa only [World.size_alloc] using this
 have h7 : Own ((((((((w.alloc (.cells A0 t0)).alloc (.cells A1 t1)).alloc (.cells A2 t2)).alloc (.cells A3 t3)).alloc (.cells A4 t4)).alloc (.cells A5 t5)).alloc (.cells A6 t6)).alloc (.cells A7 t7)) (w.heap.size + 1 + 1 + 1 + 1 + 1 + 1 + 1) A7 t7 := by have := Own.new (((((((w.alloc (.cells A0 t0)).alloc (.cells A1 t1)).alloc (.cells A2 t2)).alloc (.cells A3 t3)).alloc (.cells A4 t4)).alloc (.cells A5 t5)).alloc (.cells A6 t6)) A7 t7; simpa only [World.size_alloc] using this
 exact ⟨(((((((h0.alloc _).alloc _).alloc _).alloc _).alloc _).alloc _).alloc _), ((((((h1.alloc _).alloc _).alloc _).alloc _).alloc _).alloc _), (((((h2.alloc _).alloc _).alloc _).alloc _).alloc _), ((((h3.alloc _).alloc _).alloc _).alloc _), (((h4.alloc _).alloc _).alloc _), ((h5.alloc _).alloc _), (h6.alloc _), h7⟩
theorem Own.set6 {w : World} {b : Nat} {x0 x1 x2 x3 x4 x5 : Value} {t : TypeId} (h : Own w b #[x0, x1, x2, x3, x4, x5] t) (y0 y1 y2 y3 y4 y5 : Value) :
  Own ((((((w.setCell ⟨b, 0, none⟩ y0).setCell ⟨b, 1, none⟩ y1).setCell ⟨b, 2, none⟩ y2).setCell ⟨b, 3, none⟩ y3).setCell ⟨b, 4, none⟩ y4).setCell ⟨b, 5, none⟩ y5) b #[y0, y1, y2, y3, y4, y5] t := by
 have := ((((((h.set 0 y0).set 1 y1).set 2 y2).set 3 y3).set 4 y4).set 5 y5)
 simpa using this
theorem Kept.set6 {S : List Nat} {a w : World} {b : Nat} (h : Kept S a w) (hp : b ∈ S ∨ a.heap.size ≤ b) (y0 y1 y2 y3 y4 y5 : Value) : Kept S a ((((((w.setCell ⟨b, 0, none⟩ y0).setCell ⟨b, 1, none⟩ y1).setCell ⟨b, 2, none⟩ y2).setCell ⟨b, 3, none⟩ y3).setCell ⟨b, 4, none⟩ y4).setCell ⟨b, 5, none⟩ y5) :=
 (((((h.setCell (p := ⟨b, 0, none⟩) hp _).setCell (p := ⟨b, 1, none⟩) hp _).setCell (p := ⟨b, 2, none⟩) hp _).setCell (p := ⟨b, 3, none⟩) hp _).setCell (p := ⟨b, 4, none⟩) hp _).setCell (p := ⟨b, 5, none⟩) hp _
end Go.Proofs.YtdkimcnlhmhpgaaGreat

/- -/
namespace Go.Proofs.YtdkimcnlhmhpgaaGreat
open Go.RowKit Go.Maps
def lastOf (l : List (Nat × List UInt8)) (i : Nat) : Option (List UInt8) := l.foldl (fun acc x => if x.1 = i then some x.2 else acc) none
theorem lastOf_nil (i : Nat) : lastOf [] i = none := rfl
theorem lastOf_snoc (l : List (Nat × List UInt8)) (x : Nat × List UInt8) (i : Nat) : lastOf (l ++ [x]) i = if x.1 = i then some x.2 else lastOf l i := by
 unfold lastOf; rw [List.foldl_append]; rfl
theorem intLaw : Keyed Tryz.prog 3 := int_keyed Tryz.underlying3
def MapAt (w : World) (mb n : Nat) (f : Nat → Option (List UInt8)) : Prop :=
 ∃ D : DataW Unit, w.ownsMap Tryz.prog 3 (plainElem Tryz.prog 9) mb n D ∧ ∀ i : Nat, i ≤ 8192 → Maps.has D (.int .i64 i) = (f i).isSome ∧ ∀ s, f i = some s → ∀ z, D.atKey (.int .i64 i) z = .lit (.string s)
theorem MapAt.lt {w : World} {mb n : Nat} {f : Nat → Option (List UInt8)} (h : MapAt w mb n f) : mb < w.heap.size := by obtain ⟨D, h, _⟩ := h; exact h.lt
theorem MapAt.made (w : World) : MapAt (w.alloc (.map #[] 0)) w.heap.size 0 (fun _ => none) :=
 ⟨.map [], World.ownsMap_made _ _ _ _, fun i _ => ⟨rfl, fun s h => by cases h⟩⟩
theorem MapAt.block {w w' : World} {mb n : Nat} {f : Nat → Option (List UInt8)} (h : MapAt w mb n f) (hb : w'.heap[mb]? = w.heap[mb]?) : MapAt w' mb n f := by
 obtain ⟨D, ⟨es, clock, h1, h2⟩, h3⟩ := h
 exact ⟨D, ⟨es, clock, hb.trans h1, h2⟩, h3⟩
theorem MapAt.kept {S : List Nat} {w w' : World} {mb n : Nat} {f : Nat → Option (List UInt8)} (h : MapAt w mb n f) (k : Kept S w w') (hS : mb ∉ S) : MapAt w' mb n f :=
 h.block (k.block mb h.lt hS)
theorem MapAt.other {w : World} {mb n : Nat} {f : Nat → Option (List UInt8)} (h : MapAt w mb n f) {p : Addr} (hp : mb ≠ p.block) (u : Value) : MapAt (w.setCell p u) mb n f :=
 h.block (Below.heap_setCell w p u mb hp)
theorem MapAt.alloc {w : World} {mb n : Nat} {f : Nat → Option (List UInt8)} (h : MapAt w mb n f) (o : Obj) : MapAt (w.alloc o) mb n f :=
 h.kept ((Kept.refl [] w).alloc o) (by simp)
theorem key_i64 (i : Nat) (h : i ≤ 8192) : keyOf Tryz.prog 3 (.int .i64 i) = some (.int .i64 i) := keyOf_int_mk Tryz.underlying3 (WalkArith.wf_i64 (by omega))
theorem plain_string_inv {H : Type} {P : Program} {e : TypeId} (he : P.underlying e = some .string) {v : Value} {z : DataW H × List MemPlace} (h : plainElem P e v = some z) : ∃ s : ByteArray, v = .string s ∧ z = (.lit (.string s.data.toList), []) ∧ s.size ≤ maxLen := by
 unfold plainElem at h
 rw [he] at h
 cases v <;> simp at h
 exact ⟨_, rfl, h.2.symm, h.1⟩
set_option maxRecDepth 100000 in
theorem MapAt.look {w : World} {mb n : Nat} {f : Nat → Option (List UInt8)} (h : MapAt w mb n f) (i : Nat) (hi : i ≤ 8192) :
  (Instr.lookup 136 (.map (some mb)) (.int .i64 i) true).run Tryz.prog w = .ok (.tuple #[.string (bs ((f i).getD [])), .bool (f i).isSome]) w := by
 obtain ⟨D, hown, hf⟩ := h
 have hz : (zeroValue 9).run Tryz.prog w = .ok (.string ⟨#[]⟩) w := by kernel_rfl
 obtain ⟨v, ps, hrun, hv⟩ := hown.look_ok intLaw Tryz.underlying136 hz (zd := .lit (.string [])) (zp := []) (plainElem_string Tryz.underlying9 (s := ⟨#[]⟩) (by decide)) (key_i64 i hi)
 obtain ⟨s, rfl, hs, _⟩ := plain_string_inv Tryz.underlying9 hv
 have hs := congrArg Prod.fst hs
 obtain ⟨h1, h2⟩ := hf i hi
 rw [hrun, h1]
 cases hfi : f i with
 | none =>
  rw [hfi] at h1
  rw [atKey_of_not_has h1] at hs
  injection hs with hs
  injection hs with hs
  have e : s = bs [] := by rw [← bs_of s, ← hs]
  rw [e]; rfl
 | some t =>
  rw [h2 t hfi] at hs
  injection hs with hs
  injection hs with hs
  have e : s = bs t := by rw [← bs_of s, ← hs]
  rw [e]; rfl
theorem MapAt.put {w w' : World} {mb n : Nat} {D : DataW Unit} {f : Nat → Option (List UInt8)} (hD : IsMap D) (hf : ∀ i : Nat, i ≤ 8192 → Maps.has D (.int .i64 i) = (f i).isSome ∧ ∀ s, f i = some s → ∀ z, D.atKey (.int .i64 i) z = .lit (.string s))
  (i : Nat) (hi : i ≤ 8192) (s : List UInt8) (h : w'.ownsMap Tryz.prog 3 (plainElem Tryz.prog 9) mb n (D.put (.int .i64 i) (.lit (.string s)))) : MapAt w' mb n (fun j => if i = j then some s else f j) := by
 refine ⟨_, h, fun j hj => ?_⟩
 by_cases e : i = j
 ·subst e
  simp only [↓reduceIte]
  refine ⟨has_put_same hD (by simp [WideAt.IsKeyLit]) _, fun s' hs z => ?_⟩
  injection hs with hs
  subst hs
  exact atKey_put_same hD (by simp [WideAt.IsKeyLit]) _ z
 ·simp only [e, ↓reduceIte]
  have hne : (Lit.int .i64 (j : Int)) ≠ .int .i64 (i : Int) := fun hh => by injection hh with _ hh; omega
  rw [has_put_other hne]
  refine ⟨(hf j hj).1, fun s' hs z => ?_⟩
  rw [atKey_put_other hne]
  exact (hf j hj).2 s' hs z
structure DK where
 stand : List (List UInt8)
 waits : List (Nat × List UInt8)
 fuse : Int
 ops : Nat
 down : Bool
def scells (l : List (List UInt8)) : Array Value := (l.map fun s => Value.string (bs s)).toArray
def wcells (l : List (Nat × List UInt8)) : List Value := (l.map fun x => [Value.int .i64 (x.1 : Int), Value.string (bs x.2)]).flatten
def DiskAt (w : World) (b sb mb lo : Nat) (d : DK) : Prop :=
 ∃ wv n, Own w b #[.slice (some ⟨sb, 0, none⟩) d.stand.length d.stand.length, wv, .map (some mb), .int .i64 d.fuse, .int .i64 d.ops, .bool d.down] 138 ∧
  Own w sb (scells d.stand) 9 ∧ w.ownsRow lo 206 2 wv d.waits.length (wcells d.waits) ∧ MapAt w mb n (lastOf d.waits) ∧ n ≤ d.waits.length ∧
  sb < b ∧ mb < b ∧ sb ≠ mb ∧ b < lo ∧ lo ≤ w.heap.size ∧ 1 ≤ d.stand.length ∧ d.stand.length ≤ 8192 ∧ -1 ≤ d.fuse ∧ d.fuse ≤ 9223372036854775807 ∧ d.ops ≤ 100000
end Go.Proofs.YtdkimcnlhmhpgaaGreat

/- -/
namespace Go.Proofs.YtdkimcnlhmhpgaaGreat
open Go.RowKit
theorem scells_get (l : List (List UInt8)) (i : Nat) (h : i < l.length) : (scells l)[i]'(by simp [scells]; exact h) = .string (bs l[i]) := by simp [scells]
theorem DiskAt.six {w : World} {b sb mb lo : Nat} {d : DK} (h : DiskAt w b sb mb lo d) : ∃ p c, w.cell? ⟨b, 0, none⟩ = some (.slice (some ⟨sb, 0, none⟩) d.stand.length d.stand.length) ∧ w.cell? ⟨b, 1, none⟩ = some (.slice p d.waits.length c) ∧ w.cell? ⟨b, 2, none⟩ = some (.map (some mb)) ∧ w.cell? ⟨b, 3, none⟩ = some (.int .i64 d.fuse) ∧ w.cell? ⟨b, 4, none⟩ = some (.int .i64 d.ops) ∧ w.cell? ⟨b, 5, none⟩ = some (.bool d.down) ∧ 1 ≤ d.stand.length ∧ d.stand.length ≤ 8192 ∧ d.ops ≤ 100000 := by
 obtain ⟨wv, n, o, os, hw, hm, h1, h2, h3, h4, h5, h6, h7, h8, h9, h10, h11⟩ := h
 obtain ⟨p, c, rfl⟩ := own_shape hw
 obtain ⟨c0, c1, c2, c3, c4, c5⟩ := o.c6
 exact ⟨p, c, c0, c1, c2, c3, c4, c5, h7, h8, h11⟩
def readyOf (d : DK) : Int := if d.down then 90 else 0
theorem dReady (b sb mb lo : Nat) (d : DK) (w : World) (h : DiskAt w b sb mb lo d) : Calls Tryz.prog 89 #[.pointer (some ⟨b, 0, none⟩)] w fun e w' => e = .returned (.int .i64 (readyOf d)) ∧ w = w' := by
 obtain ⟨p, c, c0, c1, c2, c3, c4, c5, h1, h2, h3⟩ := h.six
 have hne : ((d.stand.length : Int) == 0) = false := by rw [beq_eq_false_iff_ne]; omega
 unfold readyOf
 generalize d.stand.length = n at *
 cases hd : d.down
 ·rw [hd] at c5
  clear h hd
  go_enter Tryz.func89, Tryz.ntmps89
  go_wp2_with fail
  go_ret
  exact ⟨rfl, rfl⟩
 ·rw [hd] at c5
  clear h hd
  go_enter Tryz.func89, Tryz.ntmps89
  go_wp2_with fail
  go_ret
  exact ⟨rfl, rfl⟩
def atOf (d : DK) (i : Int) : Int := if d.down then 90 else if i < 0 ∨ (d.stand.length : Int) ≤ i then 5 else 0
theorem dAt (b sb mb lo : Nat) (d : DK) (i : Int) (w : World) (h : DiskAt w b sb mb lo d) : Calls Tryz.prog 120 #[.pointer (some ⟨b, 0, none⟩), .int .i64 i] w fun e w' => e = .returned (.int .i64 (atOf d i)) ∧ w = w' := by
 have hr := dReady b sb mb lo d w h
 obtain ⟨p, c, c0, c1, c2, c3, c4, c5, h1, h2, h3⟩ := h.six
 unfold readyOf at hr
 unfold atOf
 generalize d.stand.length = n at *
 cases hd : d.down
 ·rw [hd] at hr
  simp only [Bool.false_eq_true, if_false] at hr ⊢
  clear h hd
  rcases (by omega : i < 0 ∨ (0 ≤ i ∧ i < n) ∨ (0 ≤ i ∧ ¬ (i < n))) with h1 | ⟨h1, h2⟩ | ⟨h1, h2⟩
  ·rw [if_pos (Or.inl h1)]
   go_enter Tryz.func120, Tryz.ntmps120
   go_wp2_with fail
   refine hr.mono ?_; rintro e w' ⟨rfl, rfl⟩
   go_wp2_with fail
   go_ret
   exact ⟨rfl, rfl⟩
  ·rw [if_neg (by omega)]
   go_enter Tryz.func120, Tryz.ntmps120
   go_wp2_with fail
   refine hr.mono ?_; rintro e w' ⟨rfl, rfl⟩
   go_wp2_with fail
   go_ret
   exact ⟨rfl, rfl⟩
  ·rw [if_pos (Or.inr (by omega))]
   go_enter Tryz.func120, Tryz.ntmps120
   go_wp2_with fail
   refine hr.mono ?_; rintro e w' ⟨rfl, rfl⟩
   go_wp2_with fail
   go_ret
   exact ⟨rfl, rfl⟩
 ·rw [hd] at hr
  simp only [if_true] at hr ⊢
  clear h hd
  go_enter Tryz.func120, Tryz.ntmps120
  go_wp2_with fail
  refine hr.mono ?_; rintro e w' ⟨rfl, rfl⟩
  go_wp2_with fail
  go_ret
  exact ⟨rfl, rfl⟩
def seen (d : DK) (i : Nat) : List UInt8 := (lastOf d.waits i).getD (d.stand.getD i [])
theorem dRead_no (b sb mb lo : Nat) (d : DK) (i : Int) (w : World) (h : DiskAt w b sb mb lo d) (hno : atOf d i ≠ 0) : Calls Tryz.prog 62 #[.pointer (some ⟨b, 0, none⟩), .int .i64 i] w fun e w' => e = .returned (.tuple #[.string ⟨#[]⟩, .int .i64 (atOf d i)]) ∧ w = w' := by
 have hr := dAt b sb mb lo d i w h
 clear h
 generalize atOf d i = x at *
 have hx : (x == 0) = false := by simpa using hno
 clear hno
 go_enter Tryz.func62, Tryz.ntmps62
 go_wp2_with fail
 refine hr.mono ?_; rintro e w' ⟨rfl, rfl⟩
 go_wp2_with fail
 go_ret2
 exact ⟨rfl, rfl⟩
set_option maxRecDepth 100000 in
theorem dRead (b sb mb lo : Nat) (d : DK) (i : Nat) (w : World) (h : DiskAt w b sb mb lo d) (hd : d.down = false) (hi : i < d.stand.length) : Calls Tryz.prog 62 #[.pointer (some ⟨b, 0, none⟩), .int .i64 i] w fun e w' => e = .returned (.tuple #[.string (bs (seen d i)), .int .i64 0]) ∧ w = w' := by
 have hr := dAt b sb mb lo d i w h
 have e0 : atOf d i = 0 := by unfold atOf; rw [hd, if_neg (by simp), if_neg (by omega)]
 rw [e0] at hr
 obtain ⟨p, c, c0, c1, c2, c3, c4, c5, h1, h2, h3⟩ := h.six
 obtain ⟨wv, n, o, os, hw, hm, _⟩ := h
 have hlook := hm.look i (by omega)
 have hcell : w.cell? ⟨sb, i, none⟩ = some (.string (bs d.stand[i])) := by
  rw [← scells_get d.stand i hi]
  exact os.cell i (by simp [scells]; exact hi)
 have hs : seen d i = (lastOf d.waits i).getD d.stand[i] := by
  unfold seen; rw [List.getD_eq_getElem?_getD, List.getElem?_eq_getElem hi]; rfl
 rw [hs]
 have hi' : (i : Int) < d.stand.length := by omega
 clear os hw hm o hs e0 hd
 generalize d.stand[i] = st at *
 generalize d.stand.length = n at *
 clear hi h1 h2
 cases hl : lastOf d.waits i with
 | none =>
  rw [hl] at hlook
  simp only [Option.getD_none, Option.isSome_none] at hlook ⊢
  go_enter Tryz.func62, Tryz.ntmps62
  go_wp2_with fail
  refine hr.mono ?_; rintro e w' ⟨rfl, rfl⟩
  go_wp2_with fail
  go_ret2
  exact ⟨rfl, rfl⟩
 | some t =>
  rw [hl] at hlook
  simp only [Option.getD_some, Option.isSome_some] at hlook ⊢
  go_enter Tryz.func62, Tryz.ntmps62
  go_wp2_with fail
  refine hr.mono ?_; rintro e w' ⟨rfl, rfl⟩
  go_wp2_with fail
  go_ret2
  exact ⟨rfl, rfl⟩
end Go.Proofs.YtdkimcnlhmhpgaaGreat

/- -/
namespace Go.Proofs.YtdkimcnlhmhpgaaGreat
open Go.RowKit Go.Maps
theorem dLen (b sb mb lo : Nat) (d : DK) (w : World) (h : DiskAt w b sb mb lo d) : Calls Tryz.prog 36 #[.pointer (some ⟨b, 0, none⟩)] w fun e w' => e = .returned (.int .i64 d.stand.length) ∧ w = w' := by
 obtain ⟨p, c, c0, c1, c2, c3, c4, c5, h1, h2, h3⟩ := h.six
 clear h
 go_enter Tryz.func36, Tryz.ntmps36
 go_wp2_with fail
 go_ret
 exact ⟨rfl, rfl⟩
theorem dDown (b sb mb lo : Nat) (d : DK) (w : World) (h : DiskAt w b sb mb lo d) : Calls Tryz.prog 61 #[.pointer (some ⟨b, 0, none⟩)] w fun e w' => e = .returned (.bool d.down) ∧ w = w' := by
 obtain ⟨p, c, c0, c1, c2, c3, c4, c5, h1, h2, h3⟩ := h.six
 clear h
 go_enter Tryz.func61, Tryz.ntmps61
 go_wp2_with fail
 go_ret
 exact ⟨rfl, rfl⟩
def opD (d : DK) : DK := ⟨d.stand, d.waits, if 0 < d.fuse then d.fuse - 1 else d.fuse, d.ops + 1, if d.fuse = 0 then true else d.down⟩
theorem DiskAt.nums {w w' : World} {b sb mb lo : Nat} {d d' : DK} (h : DiskAt w b sb mb lo d) (k : Kept [b] w w') (hs : d'.stand = d.stand) (hw : d'.waits = d.waits) (hf : -1 ≤ d'.fuse) (hf2 : d'.fuse ≤ 9223372036854775807) (ho : d'.ops ≤ 100000)
  (hown : ∀ v0 v1 v2, Own w b #[v0, v1, v2, .int .i64 d.fuse, .int .i64 d.ops, .bool d.down] 138 → Own w' b #[v0, v1, v2, .int .i64 d'.fuse, .int .i64 d'.ops, .bool d'.down] 138) : DiskAt w' b sb mb lo d' := by
 obtain ⟨wv, n, o, os, hwr, hm, hn, h2, h3, h4, h5, h6, h7, h8, h9, h10, h11⟩ := h
 refine ⟨wv, n, ?_, ?_, ?_, ?_, by rw [hw]; exact hn, h2, h3, h4, h5, Nat.le_trans h6 k.size, by rw [hs]; exact h7, by rw [hs]; exact h8, hf, hf2, ho⟩
 ·rw [hs]; exact hown _ _ _ o
 ·rw [hs]; exact k.own os (by simp; omega)
 ·rw [hw]; exact ownsRow_kept hwr k (by simp; omega)
 ·rw [hw]; exact hm.kept k (by simp; omega)
end Go.Proofs.YtdkimcnlhmhpgaaGreat

/- -/
namespace Go.Proofs.YtdkimcnlhmhpgaaGreat
open Go.RowKit
theorem own_row_ne {w : World} {base : Nat} {e t : TypeId} {size n g : Nat} {v : Value} {xs : List Value} {cs : Array Value} (h : w.ownsRow base e size v n xs) (o : Own w g cs t) (hne : e ≠ t) : v.ownBlock ≠ some g := by
 rcases h.2 with ⟨rfl, _⟩ | ⟨g', cap, cur, rfl, _, hh, _⟩
 ·simp [Value.ownBlock]
 ·intro he
  have e1 : g' = g := by simpa [Value.ownBlock] using he
  subst e1
  have o' : w.heap[g']? = some (.cells cs t (0, 0)) := o
  rw [o'] at hh
  injection hh with hh
  injection hh with _ ht
  exact hne ht.symm
theorem own_grown {w w' : World} {base : Nat} {e t : TypeId} {size n g : Nat} {v : Value} {xs : List Value} {cs : Array Value} (h : w.ownsRow base e size v n xs) (hg : w.grownBy w' v.ownBlock) (o : Own w g cs t) (hne : e ≠ t) : Own w' g cs t :=
 Eq.trans (hg.block g o.lt (fun he => own_row_ne h o hne he.symm)) o
theorem ownsRow_other {w : World} {base : Nat} {e : TypeId} {size n : Nat} {v : Value} {xs : List Value} (h : w.ownsRow base e size v n xs) {p : Addr} (hp : v.ownBlock ≠ some p.block) (u : Value) : (w.setCell p u).ownsRow base e size v n xs := by
 obtain ⟨h1, h2⟩ := h
 refine ⟨h1, ?_⟩
 rcases h2 with h2 | ⟨g, cap, cur, rfl, hg, hh, r⟩
 ·exact Or.inl h2
 ·refine Or.inr ⟨g, cap, cur, rfl, hg, (Below.heap_setCell w p u g (fun e => hp (by simp [Value.ownBlock, e]))).trans hh, r⟩
end Go.Proofs.YtdkimcnlhmhpgaaGreat

/- -/
namespace Go.Proofs.YtdkimcnlhmhpgaaGreat
open Go.RowKit Go.Maps
theorem infoWait : ∃ i, Tryz.prog.info? 206 = some i ∧ i.zero = some (.agg #[.int .i64 0, .string ⟨#[]⟩]) ∧ i.size = 2 ∧ i.bytes = 24 := by
 have hi : (Tryz.prog.info? 206).map (fun i => (i.zero, i.size, i.bytes)) = some (some (.agg #[.int .i64 0, .string ⟨#[]⟩]), 2, 24) := by kernel_rfl
 obtain ⟨i0, hi0, hz0, hz1, hz2⟩ := info_parts hi
 exact ⟨i0, hi0, hz0, hz1, hz2⟩
theorem wcells_snoc (l : List (Nat × List UInt8)) (x : Nat × List UInt8) : wcells (l ++ [x]) = wcells l ++ [.int .i64 (x.1 : Int), .string (bs x.2)] := by simp [wcells]
theorem dWrite_no (b sb mb lo : Nat) (d : DK) (i : Int) (s : ByteArray) (w : World) (h : DiskAt w b sb mb lo d) (hno : atOf d i ≠ 0) : Calls Tryz.prog 88 #[.pointer (some ⟨b, 0, none⟩), .int .i64 i, .string s] w fun e w' => e = .returned (.int .i64 (atOf d i)) ∧ w = w' := by
 have hr := dAt b sb mb lo d i w h
 clear h
 generalize atOf d i = x at *
 have hx : (x == 0) = false := by simpa using hno
 clear hno
 go_enter Tryz.func88, Tryz.ntmps88
 go_wp2_with fail
 refine hr.mono ?_; rintro e w' ⟨rfl, rfl⟩
 go_wp2_with fail
 go_ret
 exact ⟨rfl, rfl⟩
theorem dWrite_len (b sb mb lo : Nat) (d : DK) (i : Int) (s : ByteArray) (w : World) (h : DiskAt w b sb mb lo d) (h0 : atOf d i = 0) (hs : s.size ≠ 128) : Calls Tryz.prog 88 #[.pointer (some ⟨b, 0, none⟩), .int .i64 i, .string s] w fun e w' => e = .returned (.int .i64 1) ∧ w = w' := by
 have hr := dAt b sb mb lo d i w h
 rw [h0] at hr
 clear h h0
 have hx : ((s.size : Int) == 128) = false := by rw [beq_eq_false_iff_ne]; omega
 clear hs
 go_enter Tryz.func88, Tryz.ntmps88
 go_wp2_with fail
 refine hr.mono ?_; rintro e w' ⟨rfl, rfl⟩
 go_wp2_with fail
 go_ret
 exact ⟨rfl, rfl⟩
def writeD (d : DK) (i : Nat) (s : List UInt8) : DK := ⟨d.stand, d.waits ++ [(i, s)], (opD d).fuse, d.ops + 1, (opD d).down⟩
def DKept (b sb mb lo : Nat) (w w' : World) : Prop :=
 w'.os = w.os ∧ w'.tape = w.tape ∧ w'.output = w.output ∧ w.heap.size ≤ w'.heap.size ∧ ∀ k, k < w.heap.size → k ≠ b → k ≠ sb → k ≠ mb → (k < lo ∨ ∀ cs f, w.heap[k]? ≠ some (.cells cs 206 f)) → w'.heap[k]? = w.heap[k]?
end Go.Proofs.YtdkimcnlhmhpgaaGreat

/- -/
namespace Go.Proofs.YtdkimcnlhmhpgaaGreat
open Go.RowKit Go.Maps Go.ChangeMaps
theorem MapAt.clears {w : World} {mb n : Nat} {f : Nat → Option (List UInt8)} (h : MapAt w mb n f) (ty : TypeId) :
  ∃ w', (Builtin.clear_ #[136] ty #[.map (some mb)]).run Tryz.prog w = .ok (.tuple #[]) w' ∧ MapAt w' mb 0 (fun _ => none) ∧ Kept [mb] w w' := by
 obtain ⟨D, hown, hf⟩ := h
 obtain ⟨es, clock, hb, F, hs, rfl⟩ := hown
 have hrun : (Builtin.clear_ #[136] ty #[.map (some mb)]).run Tryz.prog w = .ok (.tuple #[]) (setBlock w mb (.map #[] clock)) := by
  simp [Builtin.clear_, run_underlying Tryz.underlying136, MapKept.run_getObj_map hb, MapKept.run_setObj_map _ hb, Result.andThen, setBlock]
 have ht : w.mapTurned (setBlock w mb (.map #[] clock)) mb := ⟨es, clock, #[], clock, hb, rfl⟩
 refine ⟨_, hrun, ⟨.map [], ⟨#[], clock, heap_setBlock_same hb _, ⟨by simp, MapKept.stamped_empty clock, by simp⟩, Nat.le_refl _, rfl⟩, fun i _ => ⟨rfl, fun s h => by cases h⟩⟩, ?_⟩
 exact (Kept.refl [mb] w).grown ht.grown (fun k hk => Or.inl (by simp at hk; simp [hk]))
theorem dAll (i : Int) (w : World) : Calls Tryz.prog 91 #[.int .i64 i] w fun e w' => e = .returned (.bool true) ∧ w = w' := by
 go_enter Tryz.func91, Tryz.ntmps91
 go_wp2_with fail
 go_ret
 exact ⟨rfl, rfl⟩
def BoolsIn (w : World) (v : Value) (l : List Bool) (lo hi : Nat) : Prop :=
 (l = [] ∧ ∃ a c, v = .slice a 0 c) ∨
 ∃ b off c, v = .slice (some ⟨b, off, none⟩) l.length c ∧ (∀ i (h : i < l.length), w.cell? ⟨b, off + i, none⟩ = some (.bool l[i])) ∧ lo ≤ b ∧ b < hi ∧ hi ≤ w.heap.size ∧ l ≠ [] ∧ l.length ≤ c ∧ c ≤ maxLen
theorem BoolsIn.kept {S : List Nat} {w w' : World} {v : Value} {l : List Bool} {lo hi : Nat} (h : BoolsIn w v l lo hi) (k : Kept S w w') (hS : ∀ x ∈ S, x < lo ∨ hi ≤ x) : BoolsIn w' v l lo hi := by
 rcases h with h | ⟨b, off, c, h1, h2, h3, h4, h5, h6⟩
 ·exact Or.inl h
 ·refine Or.inr ⟨b, off, c, h1, fun i hi => ?_, h3, h4, Nat.le_trans h5 k.size, h6⟩
  rw [k.cell (by show b < _; omega) (fun hb => by have := hS b hb; omega)]
  exact h2 i hi
end Go.Proofs.YtdkimcnlhmhpgaaGreat

/- -/
namespace Go.Proofs.YtdkimcnlhmhpgaaGreat
open Go.RowKit Go.Maps
def sk (st : List (List UInt8)) (ws : List (Nat × List UInt8)) (keep : Nat → Bool) : Nat → List (List UInt8)
 | 0 => st
 | k + 1 => if keep k then (sk st ws keep k).set (ws.getD k (0, [])).1 (ws.getD k (0, [])).2 else sk st ws keep k
theorem sk_len (st : List (List UInt8)) (ws : List (Nat × List UInt8)) (keep : Nat → Bool) (k : Nat) : (sk st ws keep k).length = st.length := by
 induction k with
 | zero => rfl
 | succ k ih =>
   unfold sk; split
   ·rw [List.length_set, ih]
   ·exact ih
theorem sk_succ (st : List (List UInt8)) (ws : List (Nat × List UInt8)) (keep : Nat → Bool) (k : Nat) (h : k < ws.length) : sk st ws keep (k + 1) = if keep k then (sk st ws keep k).set ws[k].1 ws[k].2 else sk st ws keep k := by
 have e : ws.getD k (0, []) = ws[k] := by rw [List.getD_eq_getElem?_getD, List.getElem?_eq_getElem h]; rfl
 rw [sk, e]
theorem scells_set (l : List (List UInt8)) (i : Nat) (s : List UInt8) : (scells l).setIfInBounds i (.string (bs s)) = scells (l.set i s) := by
 unfold scells; simp [List.map_set]
theorem wcells_get (l : List (Nat × List UInt8)) (i : Nat) (h : i < l.length) : (wcells l)[i * 2]? = some (.int .i64 (l[i].1 : Int)) ∧ (wcells l)[i * 2 + 1]? = some (.string (bs l[i].2)) := by
 induction l generalizing i with
 | nil => simp at h
 | cons a l ih =>
  cases i with
  | zero => exact ⟨rfl, rfl⟩
  | succ i =>
   have e : wcells (a :: l) = Value.int .i64 (a.1 : Int) :: Value.string (bs a.2) :: wcells l := rfl
   rw [e]
   have := ih i (by simpa using h)
   have e1 : (i + 1) * 2 = i * 2 + 1 + 1 := by omega
   have e2 : (i + 1) * 2 + 1 = i * 2 + 1 + 1 + 1 := by omega
   rw [e1, List.getElem?_cons_succ, List.getElem?_cons_succ, List.getElem?_cons_succ, List.getElem?_cons_succ]
   simpa using this
def settleD (d : DK) (keep : Nat → Bool) : DK := ⟨sk d.stand d.waits keep d.waits.length, [], d.fuse, d.ops, d.down⟩
theorem lt_of_cell {w : World} {g j : Nat} {v : Value} (h : w.cell? ⟨g, j, none⟩ = some v) : g < w.heap.size := World.block_lt_of_cell? _ _ h
theorem dFlush_down (b sb mb lo : Nat) (d : DK) (w : World) (h : DiskAt w b sb mb lo d) (hd : d.down = true) : Calls Tryz.prog 39 #[.pointer (some ⟨b, 0, none⟩)] w fun e w' => e = .returned (.int .i64 90) ∧ w = w' := by
 have hr := dReady b sb mb lo d w h
 unfold readyOf at hr
 rw [hd] at hr
 simp only [if_true] at hr
 go_enter Tryz.func39, Tryz.ntmps39
 go_wp2_with fail
 refine hr.mono ?_; rintro e w' ⟨rfl, rfl⟩
 go_wp2_with fail
 go_ret
 exact ⟨rfl, rfl⟩
theorem DiskAt.keep {S : List Nat} {w w' : World} {b sb mb lo : Nat} {d : DK} (h : DiskAt w b sb mb lo d) (k : Kept S w w') (hS : ∀ x ∈ S, x < lo ∧ x ≠ b ∧ x ≠ sb ∧ x ≠ mb) : DiskAt w' b sb mb lo d := by
 obtain ⟨wv, n, o, os, hwr, hm, hn, h2, h3, h4, h5, h6, r⟩ := h
 exact ⟨wv, n, k.own o (fun hx => (hS _ hx).2.1 rfl), k.own os (fun hx => (hS _ hx).2.2.1 rfl), ownsRow_kept hwr k (fun x hx => (hS x hx).1), hm.kept k (fun hx => (hS _ hx).2.2.2 rfl), hn, h2, h3, h4, h5, Nat.le_trans h6 k.size, r⟩
end Go.Proofs.YtdkimcnlhmhpgaaGreat
