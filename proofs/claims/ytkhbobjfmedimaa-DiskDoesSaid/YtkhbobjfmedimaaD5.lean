/- Walks of layer 9 (disk): a map cleared; which writes are kept. -/
import Derived.Test.YtkhbobjfmedimaaD4
namespace Go.Proofs.Ytkhbobjfmedimaa
open Go.RowKit Go.Maps Go.ChangeMaps
set_option linter.unusedVariables false
set_option linter.unusedSimpArgs false

theorem MapAt.clears {w : World} {mb n : Nat} {f : Nat → Option (List UInt8)} (h : MapAt w mb n f) (ty : TypeId) :
    ∃ w', (Builtin.clear_ #[54] ty #[.map (some mb)]).run Try.prog w = .ok (.tuple #[]) w' ∧ MapAt w' mb 0 (fun _ => none) ∧ Kept [mb] w w' := by
  obtain ⟨D, hown, hf⟩ := h
  obtain ⟨es, clock, hb, F, hs, rfl⟩ := hown
  have hrun : (Builtin.clear_ #[54] ty #[.map (some mb)]).run Try.prog w = .ok (.tuple #[]) (setBlock w mb (.map #[] clock)) := by
    simp [Builtin.clear_, run_underlying Try.underlying54, MapKept.run_getObj_map hb, MapKept.run_setObj_map _ hb, Result.andThen, setBlock]
  have ht : w.mapTurned (setBlock w mb (.map #[] clock)) mb := ⟨es, clock, #[], clock, hb, rfl⟩
  refine ⟨_, hrun, ⟨.map [], ⟨#[], clock, heap_setBlock_same hb _, ⟨by simp, MapKept.stamped_empty clock, by simp⟩, Nat.le_refl _, rfl⟩, fun i _ => ⟨rfl, fun s h => by cases h⟩⟩, ?_⟩
  exact (Kept.refl [mb] w).grown ht.grown (fun k hk => Or.inl (by simp at hk; simp [hk]))
theorem wpList_clear_map (w : World) {ops : Array Oper} {rest : List Oper} {o : Oper} {a : Act} {Q : Exit → Act → World → Prop} (hg : o.guard = none) (m : Operand) (hop : o.op = Op.call { callee := Callee.builtin Builtin.clear, args := #[m], argTypes := #[54] })
    (mb n : Nat) (f : Nat → Option (List UInt8)) (hm : a.eval m = .map (some mb)) (h : MapAt w mb n f) (hK : ∀ w', MapAt w' mb 0 (fun _ => none) → Kept [mb] w w' → wpList Try.prog ops Q rest (a.put o.dst (.tuple #[])) w') :
    wpList Try.prog ops Q (o :: rest) a w := by
  refine wpList_plain hg fun K' hK' => ?_
  obtain ⟨w', hrun, r1, r2⟩ := h.clears o.type
  unfold Oper.wp
  simp [execOp, hop, resolve, invoke, builtin, hm, hrun, Result.andThen]
  exact hK' _ _ (hK w' r1 r2)

theorem dAll (i : Int) (w : World) : Calls Try.prog 32 #[.int .i64 i] w fun e w' => e = .returned (.bool true) ∧ w = w' := by
  go_enter Try.func32, Try.ntmps32
  go_wp2_with fail
  go_ret
  exact ⟨rfl, rfl⟩
/-- the slice v reads as the bools l. -/
def BoolsIn (w : World) (v : Value) (l : List Bool) (lo hi : Nat) : Prop :=
  (l = [] ∧ ∃ a c, v = .slice a 0 c) ∨
  ∃ b off c, v = .slice (some ⟨b, off, none⟩) l.length c ∧ (∀ i (h : i < l.length), w.cell? ⟨b, off + i, none⟩ = some (.bool l[i])) ∧ lo ≤ b ∧ b < hi ∧ hi ≤ w.heap.size ∧ l ≠ [] ∧ l.length ≤ c ∧ c ≤ maxLen
theorem BoolsIn.kept {S : List Nat} {w w' : World} {v : Value} {l : List Bool} {lo hi : Nat} (h : BoolsIn w v l lo hi) (k : Kept S w w') (hS : ∀ x ∈ S, x < lo ∨ hi ≤ x) : BoolsIn w' v l lo hi := by
  rcases h with h | ⟨b, off, c, h1, h2, h3, h4, h5, h6⟩
  · exact Or.inl h
  · refine Or.inr ⟨b, off, c, h1, fun i hi => ?_, h3, h4, Nat.le_trans h5 k.size, h6⟩
    rw [k.cell (by show b < _; omega) (fun hb => by have := hS b hb; omega)]
    exact h2 i hi
/-- is the i-th kept? -/
def kept (l : List Bool) (i : Nat) : Bool := l.getD i false
theorem dChosen (g i : Nat) (v : Value) (l : List Bool) (lo hi : Nat) (w : World) (o : Own w g #[v] 23) (h : BoolsIn w v l lo hi) (hl : l.length ≤ maxLen) (hi' : i ≤ 1000000) :
    Calls Try.prog 48 #[.int .i64 i, .pointer (some ⟨g, 0, none⟩)] w fun e w' => e = .returned (.bool (kept l i)) ∧ w = w' := by
  have c0 := o.cell 0 (by simp)
  by_cases hlt : i < l.length
  · rcases h with ⟨rfl, _⟩ | ⟨b, off, c, rfl, h2, h3, h4, h5, h6, h7, h8⟩
    · simp at hlt
    · have hc := h2 i hlt
      have hk : kept l i = l[i] := by unfold kept; rw [List.getD_eq_getElem?_getD, List.getElem?_eq_getElem hlt]; rfl
      rw [hk]
      have i1 : (i : Int) < l.length := by omega
      simp only [List.getElem_toArray, List.getElem_cons_zero] at c0
      clear h2 hk o
      generalize l[i] = x at *
      generalize l.length = n at *
      go_enter Try.func48, Try.ntmps48
      go_wp2_with fail
      go_ret
      exact ⟨rfl, rfl⟩
  · have hk : kept l i = false := by unfold kept; rw [List.getD_eq_getElem?_getD, List.getElem?_eq_none (by omega)]; rfl
    rw [hk]
    have hs : ∃ p c, v = .slice p l.length c := by
      rcases h with ⟨rfl, a, c, rfl⟩ | ⟨b, off, c, rfl, _⟩
      · exact ⟨a, c, rfl⟩
      · exact ⟨_, c, rfl⟩
    obtain ⟨p, c, rfl⟩ := hs
    have i1 : ¬ ((i : Int) < l.length) := by omega
    simp only [List.getElem_toArray, List.getElem_cons_zero] at c0
    clear h o hk
    generalize l.length = n at *
    go_enter Try.func48, Try.ntmps48
    go_wp2_with fail
    go_ret
    exact ⟨rfl, rfl⟩
end Go.Proofs.Ytkhbobjfmedimaa
