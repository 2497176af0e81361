/- Layer 9 (disk): what a disk is in memory; its map of waiting writes: plain laws. -/
import Derived.Test.YtkhbobjfmedimaaKept
import Derived.Test.YtkhbobjfmedimaaMem3
import Derived.Test.YtkhbobjfmedimaaIn2
import Derived.Test.YtkhbobjfmedimaaProg
import Derived.WalkKit
import Derived.Maps.OwnSet
import Derived.Maps.Own
namespace Go.Proofs.Ytkhbobjfmedimaa
open Go.RowKit Go.Maps
set_option linter.unusedVariables false
set_option linter.unusedSimpArgs false

/-- of each sector the last write that waits. -/
def lastOf (l : List (Nat × List UInt8)) (i : Nat) : Option (List UInt8) := l.foldl (fun acc x => if x.1 = i then some x.2 else acc) none
theorem lastOf_nil (i : Nat) : lastOf [] i = none := rfl
theorem lastOf_snoc (l : List (Nat × List UInt8)) (x : Nat × List UInt8) (i : Nat) : lastOf (l ++ [x]) i = if x.1 = i then some x.2 else lastOf l i := by
  unfold lastOf; rw [List.foldl_append]; rfl
theorem intLaw : Keyed Try.prog 3 := int_keyed Try.underlying3
/-- a map reads as a function of sectors. -/
def MapAt (w : World) (mb n : Nat) (f : Nat → Option (List UInt8)) : Prop :=
  ∃ D : DataW Unit, w.ownsMap Try.prog 3 (plainElem Try.prog 9) mb n D ∧ ∀ i : Nat, i ≤ 8192 → Maps.has D (.int .i64 i) = (f i).isSome ∧ ∀ s, f i = some s → ∀ z, D.atKey (.int .i64 i) z = .lit (.string s)
theorem MapAt.lt {w : World} {mb n : Nat} {f : Nat → Option (List UInt8)} (h : MapAt w mb n f) : mb < w.heap.size := by obtain ⟨D, h, _⟩ := h; exact h.lt
theorem MapAt.made (w : World) : MapAt (w.alloc (.map #[] 0)) w.heap.size 0 (fun _ => none) :=
  ⟨.map [], World.ownsMap_made _ _ _ _, fun i _ => ⟨rfl, fun s h => by cases h⟩⟩
theorem MapAt.block {w w' : World} {mb n : Nat} {f : Nat → Option (List UInt8)} (h : MapAt w mb n f) (hb : w'.heap[mb]? = w.heap[mb]?) : MapAt w' mb n f := by
  obtain ⟨D, ⟨es, clock, h1, h2⟩, h3⟩ := h
  exact ⟨D, ⟨es, clock, hb.trans h1, h2⟩, h3⟩
theorem MapAt.kept {S : List Nat} {w w' : World} {mb n : Nat} {f : Nat → Option (List UInt8)} (h : MapAt w mb n f) (k : Kept S w w') (hS : mb ∉ S) : MapAt w' mb n f :=
  h.block (k.block mb h.lt hS)
theorem MapAt.other {w : World} {mb n : Nat} {f : Nat → Option (List UInt8)} (h : MapAt w mb n f) {p : Addr} (hp : mb ≠ p.block) (u : Value) : MapAt (w.setCell p u) mb n f :=
  h.block (Below.heap_setCell w p u mb hp)
theorem MapAt.alloc {w : World} {mb n : Nat} {f : Nat → Option (List UInt8)} (h : MapAt w mb n f) (o : Obj) : MapAt (w.alloc o) mb n f :=
  h.kept ((Kept.refl [] w).alloc o) (by simp)
theorem key_i64 (i : Nat) (h : i ≤ 8192) : keyOf Try.prog 3 (.int .i64 i) = some (.int .i64 i) := keyOf_int_mk Try.underlying3 (WalkArith.wf_i64 (by omega))
theorem plain_string_inv {H : Type} {P : Program} {e : TypeId} (he : P.underlying e = some .string) {v : Value} {z : DataW H × List MemPlace} (h : plainElem P e v = some z) : ∃ s : ByteArray, v = .string s ∧ z = (.lit (.string s.data.toList), []) ∧ s.size ≤ maxLen := by
  unfold plainElem at h
  rw [he] at h
  cases v <;> simp at h
  exact ⟨_, rfl, h.2.symm, h.1⟩
/-- 's, is := m[i]'. -/
theorem MapAt.look {w : World} {mb n : Nat} {f : Nat → Option (List UInt8)} (h : MapAt w mb n f) (i : Nat) (hi : i ≤ 8192) :
    (Instr.lookup 54 (.map (some mb)) (.int .i64 i) true).run Try.prog w = .ok (.tuple #[.string (bs ((f i).getD [])), .bool (f i).isSome]) w := by
  obtain ⟨D, hown, hf⟩ := h
  have hz : (zeroValue 9).run Try.prog w = .ok (.string ⟨#[]⟩) w := by kernel_rfl
  obtain ⟨v, ps, hrun, hv⟩ := hown.look_ok intLaw Try.underlying54 hz (zd := .lit (.string [])) (zp := []) (plainElem_string Try.underlying9 (s := ⟨#[]⟩) (by decide)) (key_i64 i hi)
  obtain ⟨s, rfl, hs, _⟩ := plain_string_inv Try.underlying9 hv
  have hs := congrArg Prod.fst hs
  obtain ⟨h1, h2⟩ := hf i hi
  rw [hrun, h1]
  cases hfi : f i with
  | none =>
    rw [hfi] at h1
    rw [atKey_of_not_has h1] at hs
    injection hs with hs
    injection hs with hs
    have e : s = bs [] := by rw [← bs_of s, ← hs]
    rw [e]; rfl
  | some t =>
    rw [h2 t hfi] at hs
    injection hs with hs
    injection hs with hs
    have e : s = bs t := by rw [← bs_of s, ← hs]
    rw [e]; rfl
/-- behind 'm[i] = s'. -/
theorem MapAt.put {w w' : World} {mb n : Nat} {D : DataW Unit} {f : Nat → Option (List UInt8)} (hD : IsMap D) (hf : ∀ i : Nat, i ≤ 8192 → Maps.has D (.int .i64 i) = (f i).isSome ∧ ∀ s, f i = some s → ∀ z, D.atKey (.int .i64 i) z = .lit (.string s))
    (i : Nat) (hi : i ≤ 8192) (s : List UInt8) (h : w'.ownsMap Try.prog 3 (plainElem Try.prog 9) mb n (D.put (.int .i64 i) (.lit (.string s)))) : MapAt w' mb n (fun j => if i = j then some s else f j) := by
  refine ⟨_, h, fun j hj => ?_⟩
  by_cases e : i = j
  · subst e
    simp only [↓reduceIte]
    refine ⟨has_put_same hD (by simp [WideAt.IsKeyLit]) _, fun s' hs z => ?_⟩
    injection hs with hs
    subst hs
    exact atKey_put_same hD (by simp [WideAt.IsKeyLit]) _ z
  · simp only [e, ↓reduceIte]
    have hne : (Lit.int .i64 (j : Int)) ≠ .int .i64 (i : Int) := fun hh => by injection hh with _ hh; omega
    rw [has_put_other hne]
    refine ⟨(hf j hj).1, fun s' hs z => ?_⟩
    rw [atKey_put_other hne]
    exact (hf j hj).2 s' hs z

/-- a disk. -/
structure DK where
  stand : List (List UInt8)
  waits : List (Nat × List UInt8)
  fuse : Int
  ops : Nat
  down : Bool
def scells (l : List (List UInt8)) : Array Value := (l.map fun s => Value.string (bs s)).toArray
def wcells (l : List (Nat × List UInt8)) : List Value := (l.map fun x => [Value.int .i64 (x.1 : Int), Value.string (bs x.2)]).flatten
/-- a disk stands at b; its sectors at sb, its map at mb; what waits from lo on. -/
def DiskAt (w : World) (b sb mb lo : Nat) (d : DK) : Prop :=
  ∃ wv n, Own w b #[.slice (some ⟨sb, 0, none⟩) d.stand.length d.stand.length, wv, .map (some mb), .int .i64 d.fuse, .int .i64 d.ops, .bool d.down] 56 ∧
    Own w sb (scells d.stand) 9 ∧ w.ownsRow lo 58 2 wv d.waits.length (wcells d.waits) ∧ MapAt w mb n (lastOf d.waits) ∧ n ≤ d.waits.length ∧
    sb < b ∧ mb < b ∧ sb ≠ mb ∧ b < lo ∧ lo ≤ w.heap.size ∧ 1 ≤ d.stand.length ∧ d.stand.length ≤ 8192 ∧ -1 ≤ d.fuse ∧ d.fuse ≤ 9223372036854775807 ∧ d.ops ≤ 100000
end Go.Proofs.Ytkhbobjfmedimaa
