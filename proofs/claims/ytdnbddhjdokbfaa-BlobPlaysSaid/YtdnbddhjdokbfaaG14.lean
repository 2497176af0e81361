/- Layer 9 (disk): what a disk is in memory; its map of waiting writes: plain laws. -/
import Derived.Test.YtdnbddhjdokbfaaProg
import Derived.Test.YtdnbddhjdokbfaaG01
import Derived.Test.YtdnbddhjdokbfaaG13
import Derived.WalkKit
import Derived.Maps.OwnSet
import Derived.Maps.Own
import Derived.Laws.MakeOwn
import Derived.Maps.AppendAt
import Derived.Deep.AppendLies
import Derived.RegionTactic
import Derived.OwnWalk
namespace Go.Proofs.Ytdnbddhjdokbfaa
open Go.RowKit Go.Maps
set_option linter.unusedVariables false
set_option linter.unusedSimpArgs false

/-- of each sector the last write that waits. -/
def lastOf (l : List (Nat × List UInt8)) (i : Nat) : Option (List UInt8) := l.foldl (fun acc x => if x.1 = i then some x.2 else acc) none
theorem lastOf_nil (i : Nat) : lastOf [] i = none := rfl
theorem lastOf_snoc (l : List (Nat × List UInt8)) (x : Nat × List UInt8) (i : Nat) : lastOf (l ++ [x]) i = if x.1 = i then some x.2 else lastOf l i := by
  unfold lastOf; rw [List.foldl_append]; rfl
theorem intLaw : Keyed Try.prog 3 := int_keyed Try.underlying3
/-- a map reads as a function of sectors. -/
def MapAt (w : World) (mb n : Nat) (f : Nat → Option (List UInt8)) : Prop :=
  ∃ D : DataW Unit, w.ownsMap Try.prog 3 (plainElem Try.prog 9) mb n D ∧ ∀ i : Nat, i ≤ 8192 → Maps.has D (.int .i64 i) = (f i).isSome ∧ ∀ s, f i = some s → ∀ z, D.atKey (.int .i64 i) z = .lit (.string s)
theorem MapAt.lt {w : World} {mb n : Nat} {f : Nat → Option (List UInt8)} (h : MapAt w mb n f) : mb < w.heap.size := by obtain ⟨D, h, _⟩ := h; exact h.lt
theorem MapAt.made (w : World) : MapAt (w.alloc (.map #[] 0)) w.heap.size 0 (fun _ => none) :=
  ⟨.map [], World.ownsMap_made _ _ _ _, fun i _ => ⟨rfl, fun s h => by cases h⟩⟩
theorem MapAt.block {w w' : World} {mb n : Nat} {f : Nat → Option (List UInt8)} (h : MapAt w mb n f) (hb : w'.heap[mb]? = w.heap[mb]?) : MapAt w' mb n f := by
  obtain ⟨D, ⟨es, clock, h1, h2⟩, h3⟩ := h
  exact ⟨D, ⟨es, clock, hb.trans h1, h2⟩, h3⟩
theorem MapAt.kept {S : List Nat} {w w' : World} {mb n : Nat} {f : Nat → Option (List UInt8)} (h : MapAt w mb n f) (k : Kept S w w') (hS : mb ∉ S) : MapAt w' mb n f :=
  h.block (k.block mb h.lt hS)
theorem MapAt.other {w : World} {mb n : Nat} {f : Nat → Option (List UInt8)} (h : MapAt w mb n f) {p : Addr} (hp : mb ≠ p.block) (u : Value) : MapAt (w.setCell p u) mb n f :=
  h.block (Below.heap_setCell w p u mb hp)
theorem MapAt.alloc {w : World} {mb n : Nat} {f : Nat → Option (List UInt8)} (h : MapAt w mb n f) (o : Obj) : MapAt (w.alloc o) mb n f :=
  h.kept ((Kept.refl [] w).alloc o) (by simp)
theorem key_i64 (i : Nat) (h : i ≤ 8192) : keyOf Try.prog 3 (.int .i64 i) = some (.int .i64 i) := keyOf_int_mk Try.underlying3 (WalkArith.wf_i64 (by omega))
theorem plain_string_inv {H : Type} {P : Program} {e : TypeId} (he : P.underlying e = some .string) {v : Value} {z : DataW H × List MemPlace} (h : plainElem P e v = some z) : ∃ s : ByteArray, v = .string s ∧ z = (.lit (.string s.data.toList), []) ∧ s.size ≤ maxLen := by
  unfold plainElem at h
  rw [he] at h
  cases v <;> simp at h
  exact ⟨_, rfl, h.2.symm, h.1⟩
set_option maxRecDepth 100000 in
/-- 's, is := m[i]'. -/
theorem MapAt.look {w : World} {mb n : Nat} {f : Nat → Option (List UInt8)} (h : MapAt w mb n f) (i : Nat) (hi : i ≤ 8192) :
    (Instr.lookup 80 (.map (some mb)) (.int .i64 i) true).run Try.prog w = .ok (.tuple #[.string (bs ((f i).getD [])), .bool (f i).isSome]) w := by
  obtain ⟨D, hown, hf⟩ := h
  have hz : (zeroValue 9).run Try.prog w = .ok (.string ⟨#[]⟩) w := by kernel_rfl
  obtain ⟨v, ps, hrun, hv⟩ := hown.look_ok intLaw Try.underlying80 hz (zd := .lit (.string [])) (zp := []) (plainElem_string Try.underlying9 (s := ⟨#[]⟩) (by decide)) (key_i64 i hi)
  obtain ⟨s, rfl, hs, _⟩ := plain_string_inv Try.underlying9 hv
  have hs := congrArg Prod.fst hs
  obtain ⟨h1, h2⟩ := hf i hi
  rw [hrun, h1]
  cases hfi : f i with
  | none =>
    rw [hfi] at h1
    rw [atKey_of_not_has h1] at hs
    injection hs with hs
    injection hs with hs
    have e : s = bs [] := by rw [← bs_of s, ← hs]
    rw [e]; rfl
  | some t =>
    rw [h2 t hfi] at hs
    injection hs with hs
    injection hs with hs
    have e : s = bs t := by rw [← bs_of s, ← hs]
    rw [e]; rfl
/-- behind 'm[i] = s'. -/
theorem MapAt.put {w w' : World} {mb n : Nat} {D : DataW Unit} {f : Nat → Option (List UInt8)} (hD : IsMap D) (hf : ∀ i : Nat, i ≤ 8192 → Maps.has D (.int .i64 i) = (f i).isSome ∧ ∀ s, f i = some s → ∀ z, D.atKey (.int .i64 i) z = .lit (.string s))
    (i : Nat) (hi : i ≤ 8192) (s : List UInt8) (h : w'.ownsMap Try.prog 3 (plainElem Try.prog 9) mb n (D.put (.int .i64 i) (.lit (.string s)))) : MapAt w' mb n (fun j => if i = j then some s else f j) := by
  refine ⟨_, h, fun j hj => ?_⟩
  by_cases e : i = j
  · subst e
    simp only [↓reduceIte]
    refine ⟨has_put_same hD (by simp [WideAt.IsKeyLit]) _, fun s' hs z => ?_⟩
    injection hs with hs
    subst hs
    exact atKey_put_same hD (by simp [WideAt.IsKeyLit]) _ z
  · simp only [e, ↓reduceIte]
    have hne : (Lit.int .i64 (j : Int)) ≠ .int .i64 (i : Int) := fun hh => by injection hh with _ hh; omega
    rw [has_put_other hne]
    refine ⟨(hf j hj).1, fun s' hs z => ?_⟩
    rw [atKey_put_other hne]
    exact (hf j hj).2 s' hs z

/-- a disk. -/
structure DK where
  stand : List (List UInt8)
  waits : List (Nat × List UInt8)
  fuse : Int
  ops : Nat
  down : Bool
def scells (l : List (List UInt8)) : Array Value := (l.map fun s => Value.string (bs s)).toArray
def wcells (l : List (Nat × List UInt8)) : List Value := (l.map fun x => [Value.int .i64 (x.1 : Int), Value.string (bs x.2)]).flatten
/-- a disk stands at b; its sectors at sb, its map at mb; what waits from lo on. -/
def DiskAt (w : World) (b sb mb lo : Nat) (d : DK) : Prop :=
  ∃ wv n, Own w b #[.slice (some ⟨sb, 0, none⟩) d.stand.length d.stand.length, wv, .map (some mb), .int .i64 d.fuse, .int .i64 d.ops, .bool d.down] 82 ∧
    Own w sb (scells d.stand) 9 ∧ w.ownsRow lo 97 2 wv d.waits.length (wcells d.waits) ∧ MapAt w mb n (lastOf d.waits) ∧ n ≤ d.waits.length ∧
    sb < b ∧ mb < b ∧ sb ≠ mb ∧ b < lo ∧ lo ≤ w.heap.size ∧ 1 ≤ d.stand.length ∧ d.stand.length ≤ 8192 ∧ -1 ≤ d.fuse ∧ d.fuse ≤ 9223372036854775807 ∧ d.ops ≤ 100000
end Go.Proofs.Ytdnbddhjdokbfaa

/- Walks of layer 9 (disk): ready, at, Read, operate, and what is told; of nobody's disk too. -/
namespace Go.Proofs.Ytdnbddhjdokbfaa
open Go.RowKit
set_option linter.unusedVariables false
set_option linter.unusedSimpArgs false

theorem scells_get (l : List (List UInt8)) (i : Nat) (h : i < l.length) : (scells l)[i]'(by simp [scells]; exact h) = .string (bs l[i]) := by simp [scells]
theorem DiskAt.six {w : World} {b sb mb lo : Nat} {d : DK} (h : DiskAt w b sb mb lo d) : ∃ p c, w.cell? ⟨b, 0, none⟩ = some (.slice (some ⟨sb, 0, none⟩) d.stand.length d.stand.length) ∧ w.cell? ⟨b, 1, none⟩ = some (.slice p d.waits.length c) ∧ w.cell? ⟨b, 2, none⟩ = some (.map (some mb)) ∧ w.cell? ⟨b, 3, none⟩ = some (.int .i64 d.fuse) ∧ w.cell? ⟨b, 4, none⟩ = some (.int .i64 d.ops) ∧ w.cell? ⟨b, 5, none⟩ = some (.bool d.down) ∧ 1 ≤ d.stand.length ∧ d.stand.length ≤ 8192 ∧ d.ops ≤ 100000 := by
  obtain ⟨wv, n, o, os, hw, hm, h1, h2, h3, h4, h5, h6, h7, h8, h9, h10, h11⟩ := h
  obtain ⟨p, c, rfl⟩ := own_shape hw
  obtain ⟨c0, c1, c2, c3, c4, c5⟩ := o.c6
  exact ⟨p, c, c0, c1, c2, c3, c4, c5, h7, h8, h11⟩

theorem dReady_nil (w : World) : Calls Try.prog 42 #[.pointer none] w fun e w' => e = .returned (.int .i64 4) ∧ w = w' := by
  go_enter Try.func42, Try.ntmps42
  go_wp2_with fail
  go_ret
  exact ⟨rfl, rfl⟩
def readyOf (d : DK) : Int := if d.down then 90 else 0
theorem dReady (b sb mb lo : Nat) (d : DK) (w : World) (h : DiskAt w b sb mb lo d) : Calls Try.prog 42 #[.pointer (some ⟨b, 0, none⟩)] w fun e w' => e = .returned (.int .i64 (readyOf d)) ∧ w = w' := by
  obtain ⟨p, c, c0, c1, c2, c3, c4, c5, h1, h2, h3⟩ := h.six
  have hne : ((d.stand.length : Int) == 0) = false := by rw [beq_eq_false_iff_ne]; omega
  unfold readyOf
  generalize d.stand.length = n at *
  cases hd : d.down
  · rw [hd] at c5
    clear h hd
    go_enter Try.func42, Try.ntmps42
    go_wp2_with fail
    go_ret
    exact ⟨rfl, rfl⟩
  · rw [hd] at c5
    clear h hd
    go_enter Try.func42, Try.ntmps42
    go_wp2_with fail
    go_ret
    exact ⟨rfl, rfl⟩
theorem dAt_nil (i : Int) (w : World) : Calls Try.prog 64 #[.pointer none, .int .i64 i] w fun e w' => e = .returned (.int .i64 4) ∧ w = w' := by
  go_enter Try.func64, Try.ntmps64
  go_wp2_with fail
  refine (dReady_nil _).mono ?_; rintro e w' ⟨rfl, rfl⟩
  go_wp2_with fail
  go_ret
  exact ⟨rfl, rfl⟩
/-- what is wrong with a sector. -/
def atOf (d : DK) (i : Int) : Int := if d.down then 90 else if i < 0 ∨ (d.stand.length : Int) ≤ i then 5 else 0
theorem dAt (b sb mb lo : Nat) (d : DK) (i : Int) (w : World) (h : DiskAt w b sb mb lo d) : Calls Try.prog 64 #[.pointer (some ⟨b, 0, none⟩), .int .i64 i] w fun e w' => e = .returned (.int .i64 (atOf d i)) ∧ w = w' := by
  have hr := dReady b sb mb lo d w h
  obtain ⟨p, c, c0, c1, c2, c3, c4, c5, h1, h2, h3⟩ := h.six
  unfold readyOf at hr
  unfold atOf
  generalize d.stand.length = n at *
  cases hd : d.down
  · rw [hd] at hr
    simp only [Bool.false_eq_true, if_false] at hr ⊢
    clear h hd
    rcases (by omega : i < 0 ∨ (0 ≤ i ∧ i < n) ∨ (0 ≤ i ∧ ¬ (i < n))) with h1 | ⟨h1, h2⟩ | ⟨h1, h2⟩
    · rw [if_pos (Or.inl h1)]
      go_enter Try.func64, Try.ntmps64
      go_wp2_with fail
      refine hr.mono ?_; rintro e w' ⟨rfl, rfl⟩
      go_wp2_with fail
      go_ret
      exact ⟨rfl, rfl⟩
    · rw [if_neg (by omega)]
      go_enter Try.func64, Try.ntmps64
      go_wp2_with fail
      refine hr.mono ?_; rintro e w' ⟨rfl, rfl⟩
      go_wp2_with fail
      go_ret
      exact ⟨rfl, rfl⟩
    · rw [if_pos (Or.inr (by omega))]
      go_enter Try.func64, Try.ntmps64
      go_wp2_with fail
      refine hr.mono ?_; rintro e w' ⟨rfl, rfl⟩
      go_wp2_with fail
      go_ret
      exact ⟨rfl, rfl⟩
  · rw [hd] at hr
    simp only [if_true] at hr ⊢
    clear h hd
    go_enter Try.func64, Try.ntmps64
    go_wp2_with fail
    refine hr.mono ?_; rintro e w' ⟨rfl, rfl⟩
    go_wp2_with fail
    go_ret
    exact ⟨rfl, rfl⟩
theorem dRead_nil (i : Int) (w : World) : Calls Try.prog 36 #[.pointer none, .int .i64 i] w fun e w' => e = .returned (.tuple #[.string ⟨#[]⟩, .int .i64 4]) ∧ w = w' := by
  go_enter Try.func36, Try.ntmps36
  go_wp2_with fail
  refine (dAt_nil _ _).mono ?_; rintro e w' ⟨rfl, rfl⟩
  go_wp2_with fail
  go_ret2
  exact ⟨rfl, rfl⟩
/-- what is seen of a sector. -/
def seen (d : DK) (i : Nat) : List UInt8 := (lastOf d.waits i).getD (d.stand.getD i [])
theorem dRead_no (b sb mb lo : Nat) (d : DK) (i : Int) (w : World) (h : DiskAt w b sb mb lo d) (hno : atOf d i ≠ 0) : Calls Try.prog 36 #[.pointer (some ⟨b, 0, none⟩), .int .i64 i] w fun e w' => e = .returned (.tuple #[.string ⟨#[]⟩, .int .i64 (atOf d i)]) ∧ w = w' := by
  have hr := dAt b sb mb lo d i w h
  clear h
  generalize atOf d i = x at *
  have hx : (x == 0) = false := by simpa using hno
  clear hno
  go_enter Try.func36, Try.ntmps36
  go_wp2_with fail
  refine hr.mono ?_; rintro e w' ⟨rfl, rfl⟩
  go_wp2_with fail
  go_ret2
  exact ⟨rfl, rfl⟩
set_option maxRecDepth 100000 in
theorem dRead (b sb mb lo : Nat) (d : DK) (i : Nat) (w : World) (h : DiskAt w b sb mb lo d) (hd : d.down = false) (hi : i < d.stand.length) : Calls Try.prog 36 #[.pointer (some ⟨b, 0, none⟩), .int .i64 i] w fun e w' => e = .returned (.tuple #[.string (bs (seen d i)), .int .i64 0]) ∧ w = w' := by
  have hr := dAt b sb mb lo d i w h
  have e0 : atOf d i = 0 := by unfold atOf; rw [hd, if_neg (by simp), if_neg (by omega)]
  rw [e0] at hr
  obtain ⟨p, c, c0, c1, c2, c3, c4, c5, h1, h2, h3⟩ := h.six
  obtain ⟨wv, n, o, os, hw, hm, _⟩ := h
  have hlook := hm.look i (by omega)
  have hcell : w.cell? ⟨sb, i, none⟩ = some (.string (bs d.stand[i])) := by
    rw [← scells_get d.stand i hi]
    exact os.cell i (by simp [scells]; exact hi)
  have hs : seen d i = (lastOf d.waits i).getD d.stand[i] := by
    unfold seen; rw [List.getD_eq_getElem?_getD, List.getElem?_eq_getElem hi]; rfl
  rw [hs]
  have hi' : (i : Int) < d.stand.length := by omega
  clear os hw hm o hs e0 hd
  generalize d.stand[i] = st at *
  generalize d.stand.length = n at *
  clear hi h1 h2
  cases hl : lastOf d.waits i with
  | none =>
    rw [hl] at hlook
    simp only [Option.getD_none, Option.isSome_none] at hlook ⊢
    go_enter Try.func36, Try.ntmps36
    go_wp2_with fail
    refine hr.mono ?_; rintro e w' ⟨rfl, rfl⟩
    go_wp2_with fail
    go_ret2
    exact ⟨rfl, rfl⟩
  | some t =>
    rw [hl] at hlook
    simp only [Option.getD_some, Option.isSome_some] at hlook ⊢
    go_enter Try.func36, Try.ntmps36
    go_wp2_with fail
    refine hr.mono ?_; rintro e w' ⟨rfl, rfl⟩
    go_wp2_with fail
    go_ret2
    exact ⟨rfl, rfl⟩
end Go.Proofs.Ytdnbddhjdokbfaa

/- Walks of layer 9 (disk): what is told; operations counted; writes. -/
namespace Go.Proofs.Ytdnbddhjdokbfaa
open Go.RowKit Go.Maps
set_option linter.unusedVariables false
set_option linter.unusedSimpArgs false

theorem dLen_nil (w : World) : Calls Try.prog 65 #[.pointer none] w fun e w' => e = .returned (.int .i64 0) ∧ w = w' := by
  go_enter Try.func65, Try.ntmps65
  go_wp2_with fail
  go_ret
  exact ⟨rfl, rfl⟩
theorem dWaits_nil (w : World) : Calls Try.prog 28 #[.pointer none] w fun e w' => e = .returned (.int .i64 0) ∧ w = w' := by
  go_enter Try.func28, Try.ntmps28
  go_wp2_with fail
  go_ret
  exact ⟨rfl, rfl⟩
theorem dDown_nil (w : World) : Calls Try.prog 27 #[.pointer none] w fun e w' => e = .returned (.bool false) ∧ w = w' := by
  go_enter Try.func27, Try.ntmps27
  go_wp2_with fail
  go_ret
  exact ⟨rfl, rfl⟩
theorem dLen (b sb mb lo : Nat) (d : DK) (w : World) (h : DiskAt w b sb mb lo d) : Calls Try.prog 65 #[.pointer (some ⟨b, 0, none⟩)] w fun e w' => e = .returned (.int .i64 d.stand.length) ∧ w = w' := by
  obtain ⟨p, c, c0, c1, c2, c3, c4, c5, h1, h2, h3⟩ := h.six
  clear h
  go_enter Try.func65, Try.ntmps65
  go_wp2_with fail
  go_ret
  exact ⟨rfl, rfl⟩
theorem dWaits (b sb mb lo : Nat) (d : DK) (w : World) (h : DiskAt w b sb mb lo d) : Calls Try.prog 28 #[.pointer (some ⟨b, 0, none⟩)] w fun e w' => e = .returned (.int .i64 d.waits.length) ∧ w = w' := by
  obtain ⟨p, c, c0, c1, c2, c3, c4, c5, h1, h2, h3⟩ := h.six
  clear h
  go_enter Try.func28, Try.ntmps28
  go_wp2_with fail
  go_ret
  exact ⟨rfl, rfl⟩
theorem dDown (b sb mb lo : Nat) (d : DK) (w : World) (h : DiskAt w b sb mb lo d) : Calls Try.prog 27 #[.pointer (some ⟨b, 0, none⟩)] w fun e w' => e = .returned (.bool d.down) ∧ w = w' := by
  obtain ⟨p, c, c0, c1, c2, c3, c4, c5, h1, h2, h3⟩ := h.six
  clear h
  go_enter Try.func27, Try.ntmps27
  go_wp2_with fail
  go_ret
  exact ⟨rfl, rfl⟩
theorem dFuse_nil (n : Int) (w : World) : Calls Try.prog 50 #[.pointer none, .int .i64 n] w fun e w' => e = .returned (.tuple #[]) ∧ w = w' := by
  go_enter Try.func50, Try.ntmps50
  go_wp2_with fail
  go_end0
  exact ⟨rfl, rfl⟩

/-- an operation counted. -/
def opD (d : DK) : DK := ⟨d.stand, d.waits, if 0 < d.fuse then d.fuse - 1 else d.fuse, d.ops + 1, if d.fuse = 0 then true else d.down⟩
theorem DiskAt.nums {w w' : World} {b sb mb lo : Nat} {d d' : DK} (h : DiskAt w b sb mb lo d) (k : Kept [b] w w') (hs : d'.stand = d.stand) (hw : d'.waits = d.waits) (hf : -1 ≤ d'.fuse) (hf2 : d'.fuse ≤ 9223372036854775807) (ho : d'.ops ≤ 100000)
    (hown : ∀ v0 v1 v2, Own w b #[v0, v1, v2, .int .i64 d.fuse, .int .i64 d.ops, .bool d.down] 82 → Own w' b #[v0, v1, v2, .int .i64 d'.fuse, .int .i64 d'.ops, .bool d'.down] 82) : DiskAt w' b sb mb lo d' := by
  obtain ⟨wv, n, o, os, hwr, hm, hn, h2, h3, h4, h5, h6, h7, h8, h9, h10, h11⟩ := h
  refine ⟨wv, n, ?_, ?_, ?_, ?_, by rw [hw]; exact hn, h2, h3, h4, h5, Nat.le_trans h6 k.size, by rw [hs]; exact h7, by rw [hs]; exact h8, hf, hf2, ho⟩
  · rw [hs]; exact hown _ _ _ o
  · rw [hs]; exact k.own os (by simp; omega)
  · rw [hw]; exact ownsRow_kept hwr k (by simp; omega)
  · rw [hw]; exact hm.kept k (by simp; omega)

set_option maxRecDepth 100000 in
theorem dOperate (b sb mb lo : Nat) (d : DK) (w : World) (h : DiskAt w b sb mb lo d) (ho : d.ops < 100000) : Calls Try.prog 43 #[.pointer (some ⟨b, 0, none⟩)] w fun e w' => e = .returned (.bool (decide (d.fuse = 0))) ∧ DiskAt w' b sb mb lo (opD d) ∧ Kept [b] w w' := by
  have hn := fun (d' : DK) (w' : World) (k : Kept [b] w w') => DiskAt.nums (d' := d') h k
  have HN := Lib.hid hn
  clear hn
  obtain ⟨wv, n, o, os, hw, hm, g1, g2, g3, g4, g5, g6, g7, g8, g9, g10, g11⟩ := h
  obtain ⟨p, c, rfl⟩ := own_shape hw
  obtain ⟨c0, c1, c2, c3, c4, c5⟩ := o.c6
  have z := o.z6
  clear os hw hm
  obtain ⟨st, wa, fu, op, dn⟩ := d
  simp only at *
  obtain ⟨q, hq⟩ : ∃ q, q = op + 1 := ⟨_, rfl⟩
  have hop : ((op : Int) + 1) = (q : Int) := by omega
  have HQ := Lib.hid hq
  have HO := Lib.hid ho
  clear hq g11
  have hop2 : (op : Int) ≤ 100000 := by omega
  rcases (by omega : fu = 0 ∨ fu = -1 ∨ 0 < fu) with rfl | rfl | hp
  · go_enter Try.func43, Try.ntmps43
    go_wp2_with fail
    go_ret
    have kk := ((Kept.refl [b] w).setCell (p := ⟨b, 4, none⟩) (Or.inl (by simp)) (.int .i64 q)).setCell (p := ⟨b, 5, none⟩) (Or.inl (by simp)) (.bool true)
    refine ⟨rfl, HN.out (opD ⟨st, wa, 0, op, dn⟩) _ kk rfl rfl (by show (-1 : Int) ≤ 0; omega) (by show (0 : Int) ≤ 9223372036854775807; omega) (by have := HO.out; show op + 1 ≤ _; omega) (fun v0 v1 v2 o => ?_), kk⟩
    show Own _ b #[v0, v1, v2, .int .i64 0, .int .i64 ((op + 1 : Nat) : Int), .bool true] _
    rw [← HQ.out]
    exact (o.set 4 _).set 5 _
  · go_enter Try.func43, Try.ntmps43
    go_wp2_with fail
    go_ret
    have kk := (Kept.refl [b] w).setCell (p := ⟨b, 4, none⟩) (Or.inl (by simp)) (.int .i64 q)
    refine ⟨rfl, HN.out (opD ⟨st, wa, -1, op, dn⟩) _ kk rfl rfl (by show (-1 : Int) ≤ -1; omega) (by show (-1 : Int) ≤ 9223372036854775807; omega) (by have := HO.out; show op + 1 ≤ _; omega) (fun v0 v1 v2 o => ?_), kk⟩
    show Own _ b #[v0, v1, v2, .int .i64 (-1), .int .i64 ((op + 1 : Nat) : Int), .bool dn] _
    rw [← HQ.out]
    exact o.set 4 _
  · have hne : (fu == 0) = false := by rw [beq_eq_false_iff_ne]; omega
    have hdc : decide (fu = 0) = false := decide_eq_false (by omega)
    rw [hdc]
    go_enter Try.func43, Try.ntmps43
    go_wp2_with fail
    go_ret
    have kk := ((Kept.refl [b] w).setCell (p := ⟨b, 4, none⟩) (Or.inl (by simp)) (.int .i64 q)).setCell (p := ⟨b, 3, none⟩) (Or.inl (by simp)) (.int .i64 (fu - 1))
    have ef : (opD ⟨st, wa, fu, op, dn⟩).fuse = fu - 1 := by show (if 0 < fu then fu - 1 else fu) = _; rw [if_pos hp]
    have ed : (opD ⟨st, wa, fu, op, dn⟩).down = dn := by show (if fu = 0 then true else dn) = _; rw [if_neg (by omega)]
    refine ⟨rfl, HN.out (opD ⟨st, wa, fu, op, dn⟩) _ kk rfl rfl (by rw [ef]; omega) (by rw [ef]; omega) (by have := HO.out; show op + 1 ≤ _; omega) (fun v0 v1 v2 o => ?_), kk⟩
    rw [ef, ed]
    show Own _ b #[v0, v1, v2, .int .i64 (fu - 1), .int .i64 ((op + 1 : Nat) : Int), .bool dn] _
    rw [← HQ.out]
    exact (o.set 4 _).set 3 _
end Go.Proofs.Ytdnbddhjdokbfaa

/- Rows that a call owns, and blocks of other elements. -/
namespace Go.Proofs.Ytdnbddhjdokbfaa
open Go.RowKit

/-- a row and a block of other elements are apart; what becomes of them. -/
theorem own_row_ne {w : World} {base : Nat} {e t : TypeId} {size n g : Nat} {v : Value} {xs : List Value} {cs : Array Value} (h : w.ownsRow base e size v n xs) (o : Own w g cs t) (hne : e ≠ t) : v.ownBlock ≠ some g := by
  rcases h.2 with ⟨rfl, _⟩ | ⟨g', cap, cur, rfl, _, hh, _⟩
  · simp [Value.ownBlock]
  · intro he
    have e1 : g' = g := by simpa [Value.ownBlock] using he
    subst e1
    have o' : w.heap[g']? = some (.cells cs t (0, 0)) := o
    rw [o'] at hh
    injection hh with hh
    injection hh with _ ht
    exact hne ht.symm
theorem own_grown {w w' : World} {base : Nat} {e t : TypeId} {size n g : Nat} {v : Value} {xs : List Value} {cs : Array Value} (h : w.ownsRow base e size v n xs) (hg : w.grownBy w' v.ownBlock) (o : Own w g cs t) (hne : e ≠ t) : Own w' g cs t :=
  Eq.trans (hg.block g o.lt (fun he => own_row_ne h o hne he.symm)) o
theorem ownsRow_other {w : World} {base : Nat} {e : TypeId} {size n : Nat} {v : Value} {xs : List Value} (h : w.ownsRow base e size v n xs) {p : Addr} (hp : v.ownBlock ≠ some p.block) (u : Value) : (w.setCell p u).ownsRow base e size v n xs := by
  obtain ⟨h1, h2⟩ := h
  refine ⟨h1, ?_⟩
  rcases h2 with h2 | ⟨g, cap, cur, rfl, hg, hh, r⟩
  · exact Or.inl h2
  · refine Or.inr ⟨g, cap, cur, rfl, hg, (Below.heap_setCell w p u g (fun e => hp (by simp [Value.ownBlock, e]))).trans hh, r⟩
end Go.Proofs.Ytdnbddhjdokbfaa
