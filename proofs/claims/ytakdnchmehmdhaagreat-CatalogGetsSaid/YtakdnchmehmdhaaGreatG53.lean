/- Layer 42 (catalog): the document's Get. -/
import Derived.Test.YtakdnchmehmdhaaGreatG25
import Derived.Test.YtakdnchmehmdhaaGreatG33
import Derived.Test.YtakdnchmehmdhaaGreatG45
import Derived.IntWalk
namespace Go.Proofs.YtakdnchmehmdhaaGreat
open Go.RowKit
set_option linter.unusedVariables false
set_option linter.unusedSimpArgs false

/-- what the document's Get tells. -/
def QGetSays (s : List UInt8) (w : World) (e : Ending) (w' : World) : Prop :=
  ((∃ c v, mayC c ∧ FitC c ∧ putC c = s ∧ CatIn w' v c ∧ e = .returned (.tuple #[v, .bool true])) ∨ (NoCat s ∧ e = .returned (.tuple #[.agg #[.int .u32 0, .int .u32 0, .slice none 0 0, .slice none 0 0, .slice none 0 0], .bool false]))) ∧ Kept [] w w'
theorem qget_no {s : List UInt8} {w w' : World} (h : NoCat s) (k : Kept [] w w') : QGetSays s w (.returned (.tuple #[.agg #[.int .u32 0, .int .u32 0, .slice none 0 0, .slice none 0 0, .slice none 0 0], .bool false])) w' := ⟨Or.inr ⟨h, rfl⟩, k⟩
theorem qget_yes {s : List UInt8} {w w' : World} {c : JCat} {v : Value} (h1 : mayC c) (h2 : putC c = s) (h3 : CatIn w' v c) (k : Kept [] w w') : QGetSays s w (.returned (.tuple #[v, .bool true])) w' := ⟨Or.inl ⟨c, v, h1, h3.fit, h2, h3, rfl⟩, k⟩
def LoB (w1 : World) (v : Value) : Prop := ∀ g, v.ownBlock = some g → w1.heap.size ≤ g
theorem LoB.nil (w1 : World) : LoB w1 (.slice none 0 0) := fun g hg => by simp [Value.ownBlock] at hg
/-- a catalog that is built in a box behind the world w1: its rows are new, and their runs begin at some base. -/
def QGrows (base : Nat) (w1 w : World) (bx : Nat) (nb nm : Int) (A B C : List JItem) : Prop :=
  ∃ va vb vc xs ys zs, Own w bx #[.int .u32 nb, .int .u32 nm, va, vb, vc] 25 ∧ Row3 base w va vb vc xs ys zs ∧ xs.map (·.1) = A ∧ ys.map (·.1) = B ∧ zs.map (·.1) = C ∧ Kept [bx] w1 w ∧ (LoB w1 va ∧ LoB w1 vb ∧ LoB w1 vc)
theorem QGrows.start {base : Nat} {w1 : World} {bx : Nat} {nb nm : Int} (o : Own w1 bx #[.int .u32 nb, .int .u32 nm, .slice none 0 0, .slice none 0 0, .slice none 0 0] 25) : QGrows base w1 w1 bx nb nm [] [] [] :=
  ⟨_, _, _, [], [], [], o, Row3.nil _ _, rfl, rfl, rfl, Kept.refl _ _, LoB.nil _, LoB.nil _, LoB.nil _⟩
theorem QGrows.kept0 {base : Nat} {w1 w w' : World} {bx : Nat} {nb nm : Int} {A B C : List JItem} (h : QGrows base w1 w bx nb nm A B C) (k : Kept [] w w') : QGrows base w1 w' bx nb nm A B C := by
  obtain ⟨va, vb, vc, xs, ys, zs, o, r3, e1, e2, e3, kk, hlo⟩ := h
  exact ⟨va, vb, vc, xs, ys, zs, k.own o (by simp), r3.kept0 k, e1, e2, e3, kk.trans (k.mono (fun x hx => by cases hx)), hlo⟩
theorem QGrows.cat {base : Nat} {w1 w : World} {bx : Nat} {nb nm : Int} {A B C : List JItem} (h : QGrows base w1 w bx nb nm A B C) (hb : (Lit.int .u32 nb).wf = true) (hm : (Lit.int .u32 nm).wf = true) :
    ∃ va vb vc, (SlV va ∧ SlV vb ∧ SlV vc) ∧ Own w bx #[.int .u32 nb, .int .u32 nm, va, vb, vc] 25 ∧ Kept [bx] w1 w ∧ (∀ w', Kept [] w w' → CatIn w' (.agg #[.int .u32 nb, .int .u32 nm, va, vb, vc]) ⟨nb, nm, A, B, C⟩ ∧ ∀ g cs, Own w' g cs 25 → ∀ a b c d e, CatIn (((((w'.setCell ⟨g, 0, none⟩ a).setCell ⟨g, 1, none⟩ b).setCell ⟨g, 2, none⟩ c).setCell ⟨g, 3, none⟩ d).setCell ⟨g, 4, none⟩ e) (.agg #[.int .u32 nb, .int .u32 nm, va, vb, vc]) ⟨nb, nm, A, B, C⟩) := by
  obtain ⟨va, vb, vc, xs, ys, zs, o, r3, e1, e2, e3, k, _⟩ := h
  have hc : ∀ W, Row3 base W va vb vc xs ys zs → CatIn W (.agg #[.int .u32 nb, .int .u32 nm, va, vb, vc]) ⟨nb, nm, A, B, C⟩ := fun W r => by
    have i1 := r.in1
    have i2 := r.rot.in1
    have i3 := r.rot.rot.in1
    rw [e1] at i1
    rw [e2] at i2
    rw [e3] at i3
    exact ⟨va, vb, vc, rfl, i1, i2, i3, hb, hm⟩
  have hsl : ∀ {v : Value} {n : Nat} {us : List Value}, w.ownsRow base 58 4 v n us → SlV v := fun h => by
    obtain ⟨p, c, rfl⟩ := own_shape h
    exact ⟨_, _, _, rfl⟩
  refine ⟨va, vb, vc, ⟨hsl r3.ra, hsl r3.rb, hsl r3.rc⟩, o, k, fun w' q => ⟨hc _ (r3.kept0 q), fun g cs og a b c d e => hc _ ?_⟩⟩
  exact (((((r3.kept0 q).set og 0 a).set (og.set 0 a) 1 b).set ((og.set 0 a).set 1 b) 2 c).set (((og.set 0 a).set 1 b).set 2 c) 3 d).set ((((og.set 0 a).set 1 b).set 2 c).set 3 d) 4 e
/-- one more item, put behind the row. -/
theorem QGrows.put {base : Nat} {w1 w w6 : World} {bx : Nat} {nb nm : Int} {ob : Obj} {va vb vc v6 : Value} {xs ys zs : List (JItem × Value)} {x : JItem × Value} {cs : Array Value} (o : Own w bx cs 25) (r : Row3 base w va vb vc xs ys zs) (hx : OwnItem base w x) (kk : Kept [bx] w1 w) (hlo : LoB w1 va)
    (hg : (w.alloc ob).grownBy w6 va.ownBlock) (hr : w6.ownsRow base 58 4 v6 (xs.length + 1) (icells xs ++ vcells x.1 x.2)) (hb : v6.ownBlock = va.ownBlock ∨ v6.ownBlock = some (w.alloc ob).heap.size) :
    Own w6 bx cs 25 ∧ Row3 base w6 v6 vb vc (xs ++ [x]) ys zs ∧ Kept [bx] w1 w6 ∧ LoB w1 v6 ∧ (∀ g cs' t, Own w g cs' t → t ≠ 58 → Own w6 g cs' t) := by
  have k1 : Kept [] w (w.alloc ob) := (Kept.refl _ _).alloc _
  have hown : ∀ g cs' t, Own w g cs' t → t ≠ 58 → Own w6 g cs' t := fun g cs' t o ht => by
    have o1 := o.alloc ob
    have hne := own_row_ne (World.ownsRow.alloc r.ra ob) o1 (fun e => ht e.symm)
    have : w6.heap[g]? = (w.alloc ob).heap[g]? := hg.block g o1.lt (fun e => hne e.symm)
    show w6.heap[g]? = _
    rw [this]
    exact o1
  refine ⟨hown _ _ _ o (by decide), (r.kept0 k1).add (hx.kept0 k1) hg hr hb, (kk.alloc ob).grown hg (fun q hq => Or.inr (hlo q hq)), fun g e => ?_, hown⟩
  rcases hb with hb | hb
  · exact hlo g (by rw [← hb]; exact e)
  · rw [hb] at e
    injection e with e
    have h1 := kk.size
    have h2 := k1.size
    omega
end Go.Proofs.YtakdnchmehmdhaaGreat
