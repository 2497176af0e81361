/- Runs in rows of the call's own; runs copied. -/
import Derived.Test.YtegbekeopgponaaProg
import Derived.Test.YtegbekeopgponaaG01
import Derived.Test.YtegbekeopgponaaG10
import Derived.WalkSpells
import Derived.Laws.AppendOwn
import Derived.WalkKit
import Derived.Deep.RegionHeld3
namespace Go.Proofs.Ytegbekeopgponaa
open Go.RowKit
set_option linter.unusedVariables false
set_option linter.unusedSimpArgs false

theorem RunsIn.weaken {w : World} {v : Value} {l : List (Int × Int)} {lo hi lo' hi' : Nat} (h : RunsIn w v l lo hi) (h1 : lo' ≤ lo) (h2 : hi ≤ hi') (h3 : hi' ≤ w.heap.size) : RunsIn w v l lo' hi' := by
  rcases h with h | ⟨b, off, c, e1, e2, e3, e4, e5, e6, e7, e8⟩
  · exact Or.inl h
  · exact Or.inr ⟨b, off, c, e1, e2, by omega, by omega, h3, e6, e7, e8⟩
/-- the cells of runs. -/
def rcells (l : List (Int × Int)) : List Value := (l.map fun r => [Value.int .i64 r.1, Value.int .i64 r.2]).flatten
theorem rcells_len (l : List (Int × Int)) : (rcells l).length = l.length * 2 := by
  induction l with
  | nil => rfl
  | cons a l ih => simp only [rcells, List.map_cons, List.flatten_cons, List.length_append, List.length_cons, List.length_nil] at *; omega
theorem rcells_get (l : List (Int × Int)) (i : Nat) (h : i < l.length) : (rcells l)[i * 2]? = some (.int .i64 l[i].1) ∧ (rcells l)[i * 2 + 1]? = some (.int .i64 l[i].2) := by
  induction l generalizing i with
  | nil => simp at h
  | cons a l ih =>
    cases i with
    | zero => exact ⟨rfl, rfl⟩
    | succ i =>
      have e : rcells (a :: l) = Value.int .i64 a.1 :: Value.int .i64 a.2 :: rcells l := rfl
      rw [e]
      have := ih i (by simpa using h)
      have e1 : (i + 1) * 2 = i * 2 + 1 + 1 := by omega
      have e2 : (i + 1) * 2 + 1 = i * 2 + 1 + 1 + 1 := by omega
      rw [e1, List.getElem?_cons_succ, List.getElem?_cons_succ, List.getElem?_cons_succ, List.getElem?_cons_succ]
      simpa using this
theorem rcells_snoc (l : List (Int × Int)) (r : Int × Int) : rcells (l ++ [r]) = rcells l ++ [.int .i64 r.1, .int .i64 r.2] := by simp [rcells]
theorem rcells_one (l : List (Int × Int)) : ∀ u ∈ rcells l, u.oneCell' = true := by
  intro u hu
  simp only [rcells, List.mem_flatten, List.mem_map] at hu
  obtain ⟨_, ⟨r, _, rfl⟩, hu⟩ := hu
  simp at hu
  rcases hu with rfl | rfl <;> rfl
theorem RunsIn.of_own {w : World} {base : Nat} {v : Value} {n : Nat} {l : List (Int × Int)} (h : w.ownsRow base 102 2 v n (rcells l)) : RunsIn w v l base w.heap.size := by
  obtain ⟨hlen, h⟩ := h
  rw [rcells_len] at hlen
  have hn : l.length = n := by omega
  rcases h with ⟨rfl, rfl⟩ | ⟨g, cap, cur, rfl, hb, hg, hnc, hcm, hcs, htake⟩
  · exact Or.inl ⟨List.eq_nil_of_length_eq_zero hn, _, _, rfl⟩
  · by_cases h0 : n = 0
    · subst h0
      exact Or.inl ⟨List.eq_nil_of_length_eq_zero hn, _, _, rfl⟩
    · refine Or.inr ⟨g, 0, cap, by rw [hn], fun i hi => ?_, hb, lt_of_block hg, Nat.le_refl _, fun h => by rw [h] at hn; simp at hn; omega, by omega, hcm⟩
      obtain ⟨g1, g2⟩ := rcells_get l i hi
      have key : ∀ j u, (rcells l)[j]? = some u → w.cell? ⟨g, 0 + j, none⟩ = some u := fun j u hj => by
        rw [Nat.zero_add, cell_of_row w g j cur 102 (0, 0) hg]
        rw [← htake] at hj
        have hjn : j < n * 2 := by
          rcases Nat.lt_or_ge j (n * 2) with h | h
          · exact h
          · rw [List.getElem?_eq_none (by rw [List.length_take]; omega)] at hj; cases hj
        rw [List.getElem?_take_of_lt hjn] at hj
        simpa using hj
      exact ⟨key _ _ g1, key _ _ g2⟩
theorem infoRun : ∃ i, Try.prog.info? 102 = some i ∧ i.zero = some (.agg #[.int .i64 0, .int .i64 0]) ∧ i.size = 2 ∧ i.bytes = 16 := by
  have hi : (Try.prog.info? 102).map (fun i => (i.zero, i.size, i.bytes)) = some (some (.agg #[.int .i64 0, .int .i64 0]), 2, 16) := by kernel_rfl
  obtain ⟨i0, hi0, hz0, hz1, hz2⟩ := info_parts hi
  exact ⟨i0, hi0, hz0, hz1, hz2⟩
theorem RunsIn.cells {w : World} {b off n c lo hi : Nat} {l : List (Int × Int)} (h : RunsIn w (.slice (some ⟨b, off, none⟩) n c) l lo hi) : ∀ j u, (rcells l)[j]? = some u → w.cell? ⟨b, off + j, none⟩ = some u := by
  intro j u hj
  have hjl : j < (rcells l).length := by
    rcases Nat.lt_or_ge j (rcells l).length with h | h
    · exact h
    · rw [List.getElem?_eq_none h] at hj; cases hj
  rw [rcells_len] at hjl
  have hi' : j / 2 < l.length := by omega
  obtain ⟨b', off', e, c0, c1, _⟩ := h.at_ (j / 2) hi'
  injection e with e
  injection e with e1 e2 _
  subst e1 e2
  obtain ⟨g1, g2⟩ := rcells_get l (j / 2) hi'
  rcases Nat.mod_two_eq_zero_or_one j with h | h
  · have ej : j / 2 * 2 = j := by omega
    rw [ej] at c0 g1
    rw [c0, ← g1, hj]
  · have ej : j / 2 * 2 + 1 = j := by omega
    rw [Nat.add_assoc, ej] at c1
    rw [ej] at g2
    rw [c1, ← g2, hj]

end Go.Proofs.Ytegbekeopgponaa

/- A drawn region walked by hand, operation by operation: what yields is taken first, its slot said; what is not wanted too. -/
namespace Go.Proofs.Ytegbekeopgponaa
open Go.RowKit
theorem take_at {P : Program} {ops : Array Oper} {Q : Exit → Act → World → Prop} {md : Region.Mode} {S : World → Prop} {i : Nat} {oi : Oper} {v : Value} {d : Option Tmp} {fuel : Nat} {listed : Array Bool} {a : Act} {w : World} (hi : ops[i]? = some oi) (hd : oi.dst = d)
    (hs : Region.noSelect ops = true) (hf : Region.free md ops listed i = true) (hr : (Region.ready md ops listed).contains i = true)
    (hQ : ∀ c a w, Q (.panic c) (a.put d v) w → Q (.panic c) a w) (hy : YieldsIf P ops S oi v a) (hS : S w)
    (h : wpAnyH P md ops Q S fuel (listed.setIfInBounds i true) (a.put d v) w) : wpAnyH P md ops Q S (fuel + 1) listed a w := by
  subst hd
  exact wpAnyH_take hi hs hf hr hQ hy hS h
theorem ready_one {P : Program} {ops : Array Oper} {Q : Exit → Act → World → Prop} {md : Region.Mode} {S : World → Prop} {i : Nat} {oi : Oper} {d : Option Tmp} {fuel : Nat} {listed : Array Bool} {a : Act} {w : World} (hi : ops[i]? = some oi) (hd : oi.dst = d)
    (hr : Region.ready md ops listed = [i]) (hw : Region.wanted oi (yielded ops a.tmps) = true)
    (h : ∀ K : Act → World → Prop, Shut (∀ v w, S w → (S w → wpAnyH P md ops Q S fuel (listed.setIfInBounds i true) (a.put d v) w) → K (a.put d v) w) → Oper.wp P oi a w K Q) : wpAnyH P md ops Q S (fuel + 1) listed a w := by
  subst hd
  refine wpAnyH_ready hr (by simp) (AllReadyH.cons hi (fun K hK => ?_) AllReadyH.nil)
  rw [if_pos hw]
  exact h K (fun v w h1 h2 => hK (a.put oi.dst v) w h1 h2)
end Go.Proofs.Ytegbekeopgponaa
