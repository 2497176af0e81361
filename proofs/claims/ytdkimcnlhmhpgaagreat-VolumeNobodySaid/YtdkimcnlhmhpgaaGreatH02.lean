/- -/
import Derived.Test.YtdkimcnlhmhpgaaGreatProg
import Derived.Test.YtdkimcnlhmhpgaaGreatH01
import Derived.WalkSpells
import Derived.Laws.AppendOwn
import Derived.WalkKit
import Derived.Laws.Rows
import Derived.Laws.ResultCell
set_option linter.unusedVariables false
set_option linter.unusedSimpArgs false
namespace Go.Proofs.YtdkimcnlhmhpgaaGreat
open Go.RowKit
theorem RunsIn.weaken {w : World} {v : Value} {l : List (Int × Int)} {lo hi lo' hi' : Nat} (h : RunsIn w v l lo hi) (h1 : lo' ≤ lo) (h2 : hi ≤ hi') (h3 : hi' ≤ w.heap.size) : RunsIn w v l lo' hi' := by
 rcases h with h | ⟨b, off, c, e1, e2, e3, e4, e5, e6, e7, e8⟩
 ·exact Or.inl h
 ·exact Or.inr ⟨b, off, c, e1, e2, by omega, by omega, h3, e6, e7, e8⟩
def rcells (l : List (Int × Int)) : List Value := (l.map fun r => [Value.int .i64 r.1, Value.int .i64 r.2]).flatten
theorem rcells_len (l : List (Int × Int)) : (rcells l).length = l.length * 2 := by
 induction l with
 | nil => rfl
 | cons a l ih => simp only [rcells, List.map_cons, List.flatten_cons, List.length_append, List.length_cons, List.length_nil] at *; omega
theorem rcells_get (l : List (Int × Int)) (i : Nat) (h : i < l.length) : (rcells l)[i * 2]? = some (.int .i64 l[i].1) ∧ (rcells l)[i * 2 + 1]? = some (.int .i64 l[i].2) := by
 induction l generalizing i with
 | nil => simp at h
 | cons a l ih =>
  cases i with
  | zero => exact ⟨rfl, rfl⟩
  | succ i =>
   have e : rcells (a :: l) = Value.int .i64 a.1 :: Value.int .i64 a.2 :: rcells l := rfl
   rw [e]
   have := ih i (by simpa using h)
   have e1 : (i + 1) * 2 = i * 2 + 1 + 1 := by omega
   have e2 : (i + 1) * 2 + 1 = i * 2 + 1 + 1 + 1 := by omega
   rw [e1, List.getElem?_cons_succ, List.getElem?_cons_succ, List.getElem?_cons_succ, List.getElem?_cons_succ]
   simpa using this
theorem rcells_snoc (l : List (Int × Int)) (r : Int × Int) : rcells (l ++ [r]) = rcells l ++ [.int .i64 r.1, .int .i64 r.2] := by simp [rcells]
theorem rcells_one (l : List (Int × Int)) : ∀ u ∈ rcells l, u.oneCell' = true := by
 intro u hu
 simp only [rcells, List.mem_flatten, List.mem_map] at hu
 obtain ⟨_, ⟨r, _, rfl⟩, hu⟩ := hu
 simp at hu
 rcases hu with rfl | rfl <;> rfl
theorem RunsIn.of_own {w : World} {base : Nat} {v : Value} {n : Nat} {l : List (Int × Int)} (h : w.ownsRow base 128 2 v n (rcells l)) : RunsIn w v l base w.heap.size := by
 obtain ⟨hlen, h⟩ := h
 rw [rcells_len] at hlen
 have hn : l.length = n := by omega
 rcases h with ⟨rfl, rfl⟩ | ⟨g, cap, cur, rfl, hb, hg, hnc, hcm, hcs, htake⟩
 ·exact Or.inl ⟨List.eq_nil_of_length_eq_zero hn, _, _, rfl⟩
 ·by_cases h0 : n = 0
  ·subst h0
   exact Or.inl ⟨List.eq_nil_of_length_eq_zero hn, _, _, rfl⟩
  ·refine Or.inr ⟨g, 0, cap, by rw [hn], fun i hi => ?_, hb, lt_of_block hg, Nat.le_refl _, fun h => by rw [h] at hn; simp at hn; omega, by omega, hcm⟩
   obtain ⟨g1, g2⟩ := rcells_get l i hi
   have key : ∀ j u, (rcells l)[j]? = some u → w.cell? ⟨g, 0 + j, none⟩ = some u := fun j u hj => by
    rw [Nat.zero_add, cell_of_row w g j cur 128 (0, 0) hg]
    rw [← htake] at hj
    have hjn : j < n * 2 := by
     rcases Nat.lt_or_ge j (n * 2) with h | h
     ·exact h
     ·rw [List.getElem?_eq_none (by rw [List.length_take]; omega)] at hj; cases hj
    rw [List.getElem?_take_of_lt hjn] at hj
    simpa using hj
   exact ⟨key _ _ g1, key _ _ g2⟩
theorem infoRun : ∃ i, Tryz.prog.info? 128 = some i ∧ i.zero = some (.agg #[.int .i64 0, .int .i64 0]) ∧ i.size = 2 ∧ i.bytes = 16 := by
 have hi : (Tryz.prog.info? 128).map (fun i => (i.zero, i.size, i.bytes)) = some (some (.agg #[.int .i64 0, .int .i64 0]), 2, 16) := by kernel_rfl
 obtain ⟨i0, hi0, hz0, hz1, hz2⟩ := info_parts hi
 exact ⟨i0, hi0, hz0, hz1, hz2⟩
theorem RunsIn.cells {w : World} {b off n c lo hi : Nat} {l : List (Int × Int)} (h : RunsIn w (.slice (some ⟨b, off, none⟩) n c) l lo hi) : ∀ j u, (rcells l)[j]? = some u → w.cell? ⟨b, off + j, none⟩ = some u := by
 intro j u hj
 have hjl : j < (rcells l).length := by
  rcases Nat.lt_or_ge j (rcells l).length with h | h
  ·exact h
  ·rw [List.getElem?_eq_none h] at hj; cases hj
 rw [rcells_len] at hjl
 have hi' : j / 2 < l.length := by omega
 obtain ⟨b', off', e, c0, c1, _⟩ := h.at_ (j / 2) hi'
 injection e with e
 injection e with e1 e2 _
 subst e1 e2
 obtain ⟨g1, g2⟩ := rcells_get l (j / 2) hi'
 rcases Nat.mod_two_eq_zero_or_one j with h | h
 ·have ej : j / 2 * 2 = j := by omega
  rw [ej] at c0 g1
  rw [c0, ← g1, hj]
 ·have ej : j / 2 * 2 + 1 = j := by omega
  rw [Nat.add_assoc, ej] at c1
  rw [ej] at g2
  rw [c1, ← g2, hj]
set_option maxRecDepth 100000 in
theorem pclone (v : Value) (l : List (Int × Int)) (lo hi : Nat) (w : World) (h : RunsIn w v l lo hi) (hl : l.length ≤ 1000000) :
  Calls Tryz.prog 69 #[v] w fun e w' => (∃ v', e = .returned v' ∧ RunsIn w' v' l w.heap.size w'.heap.size) ∧ Kept [] w w' := by
 obtain ⟨i0, hi0, hz0, hz1, hz2⟩ := infoRun
 have q22 : ∀ (w : World) (a : Option Addr) (n c n' c' : Nat), (binOp .eql 56 (.slice a n c) (.slice none n' c')).run Tryz.prog w = .ok (.bool a.isNone) w := fun w a n c n' c' => Lib.run_eql_slice_nil w _ _ a n c n' c' Tryz.underlying56
 obtain ⟨p, c, rfl⟩ := h.shape
 cases p with
 | none =>
  have hl0 : l = [] := by
   rcases h with ⟨h, _⟩ | ⟨b, off, c', e, _⟩
   ·exact h
   ·simp at e
  subst hl0
  go_enter Tryz.func69, Tryz.ntmps69
  go_wp2_with fail
  go_ret
  exact ⟨⟨_, rfl, Or.inl ⟨rfl, _, _, rfl⟩⟩, Kept.refl _ _⟩
 | some ad =>
  have hcell : ∀ j u, (rcells l)[j]? = some u → w.cell? (ad.add j) = some u := by
   rcases h with ⟨rfl, _⟩ | ⟨b, off, c', e, h2⟩
   ·intro j u hj; simp [rcells] at hj
   ·simp at e
    obtain ⟨rfl, rfl⟩ := e
    have hh : RunsIn w (.slice (some ⟨b, off, none⟩) l.length c) l lo hi := Or.inr ⟨b, off, c, rfl, h2⟩
    intro j u hj
    rw [Go.WideShapes.add_plain]
    exact hh.cells j u hj
  have A := Lib.hid hcell
  clear hcell h
  have hr1 := rcells_len l
  have hr2 := rcells_one l
  have HR1 := Lib.hid hr1
  have HR2 := Lib.hid hr2
  clear hr1 hr2
  go_enter Tryz.func69, Tryz.ntmps69
  go_wp2_with (at_builtin; refine wpList_append_own _ rfl _ _ 56 rfl w.heap.size 128 i0 _ 2 16 Tryz.underlying56 hi0 hz0 hz1 hz2 rfl (by decide) _ _ _ rfl (World.ownsRow_made w #[] 0 (Nat.le_refl _) (Nat.zero_le _) (by simp)) ad l.length c (rcells l) rfl ?qc1 ?qc2 ?qc3 ?qc4 ?qc5 ?qc6 ?_)
  case qc1 => exact HR1.out
  case qc2 => intro j u hj; exact Lib.cell?_alloc_some _ (A.out j u hj)
  case qc3 => exact HR2.out
  case qc4 => unfold maxLen; omega
  case qc5 => omega
  case qc6 => simp
  intro v' w1 hown hgrow hnil
  have hro := RunsIn.of_own (l := l) (by simpa using hown)
  have hk1 : Kept [] w w1 := ((Kept.refl _ _).alloc _).grown hgrow (fun k hk => Or.inr (by simp [Value.ownBlock] at hk; omega))
  clear hown hgrow hnil
  go_wp2_with fail
  go_ret
  exact ⟨⟨_, rfl, hro⟩, hk1⟩
theorem Own.c2 {w : World} {b : Nat} {x0 x1 : Value} {t : TypeId} (h : Own w b #[x0, x1] t) : w.cell? ⟨b, 0, none⟩ = some x0 ∧ w.cell? ⟨b, 1, none⟩ = some x1 :=
 ⟨h.cell 0 (by simp), h.cell 1 (by simp)⟩
theorem Own.c4 {w : World} {b : Nat} {x0 x1 x2 x3 : Value} {t : TypeId} (h : Own w b #[x0, x1, x2, x3] t) : w.cell? ⟨b, 0, none⟩ = some x0 ∧ w.cell? ⟨b, 1, none⟩ = some x1 ∧ w.cell? ⟨b, 2, none⟩ = some x2 ∧ w.cell? ⟨b, 3, none⟩ = some x3 :=
 ⟨h.cell 0 (by simp), h.cell 1 (by simp), h.cell 2 (by simp), h.cell 3 (by simp)⟩
theorem Own.z4 {w : World} {b : Nat} {x0 x1 x2 x3 : Value} {t : TypeId} (h : Own w b #[x0, x1, x2, x3] t) : w.frozen? ⟨b, 0, none⟩ = false ∧ w.frozen? ⟨b, 1, none⟩ = false ∧ w.frozen? ⟨b, 2, none⟩ = false ∧ w.frozen? ⟨b, 3, none⟩ = false :=
 ⟨h.free 0, h.free 1, h.free 2, h.free 3⟩
theorem own_four (w : World) (A B C D : Array Value) (s t u v : TypeId) : Own ((((w.alloc (.cells A s)).alloc (.cells B t)).alloc (.cells C u)).alloc (.cells D v)) w.heap.size A s ∧ Own ((((w.alloc (.cells A s)).alloc (.cells B t)).alloc (.cells C u)).alloc (.cells D v)) (w.heap.size + 1) B t ∧ Own ((((w.alloc (.cells A s)).alloc (.cells B t)).alloc (.cells C u)).alloc (.cells D v)) (w.heap.size + 1 + 1) C u ∧ Own ((((w.alloc (.cells A s)).alloc (.cells B t)).alloc (.cells C u)).alloc (.cells D v)) (w.heap.size + 1 + 1 + 1) D v := by
 obtain ⟨a, b, c⟩ := own_three w A B C s t u
 refine ⟨a.alloc _, b.alloc _, c.alloc _, ?_⟩
 have := Own.new (((w.alloc (.cells A s)).alloc (.cells B t)).alloc (.cells C u)) D v
 simpa only [World.size_alloc] using this
theorem ret_row_tmp {P : Program} {fn : Func} {p u : Tmp} {ty : TypeId} (h : fn.results = #[.cell p ty, .tmp u]) {tmps : Array Value} {w : World} {g : Nat} {t : TypeId} {cs : Array Value} {d : TypeDesc} {x : Value}
  (hp : tmps.getD p undef = .pointer (some ⟨g, 0, none⟩)) (hx : tmps.getD u undef = x) (o : Own w g cs t) (hu : P.underlying ty = some d) (hd : (match d with | .struct _ | .array _ _ => true | _ => false) = true) (hi : (P.info? ty).map (·.size) = some cs.size) :
  (results fn tmps).run P w = .ok (.tuple #[.agg cs, x]) w := by
 rw [results_cell_tmp h, hp, hx]
 simp [asAddr, run_loadVar_row w g t ty cs (0, 0) d o hu hd hi]
theorem ret_row {P : Program} {fn : Func} {p : Tmp} {ty : TypeId} (h : fn.results = #[.cell p ty]) {tmps : Array Value} {w : World} {g : Nat} {t : TypeId} {cs : Array Value} {d : TypeDesc}
  (hp : tmps.getD p undef = .pointer (some ⟨g, 0, none⟩)) (o : Own w g cs t) (hu : P.underlying ty = some d) (hd : (match d with | .struct _ | .array _ _ => true | _ => false) = true) (hi : (P.info? ty).map (·.size) = some cs.size) :
  (results fn tmps).run P w = .ok (.agg cs) w := results_cell_row h tmps w g t cs (0, 0) d hp o hu hd hi
theorem Own.set4 {w : World} {b : Nat} {x0 x1 x2 x3 : Value} {t : TypeId} (h : Own w b #[x0, x1, x2, x3] t) (y0 y1 y2 y3 : Value) :
  Own ((((w.setCell ⟨b, 0, none⟩ y0).setCell ⟨b, 1, none⟩ y1).setCell ⟨b, 2, none⟩ y2).setCell ⟨b, 3, none⟩ y3) b #[y0, y1, y2, y3] t := by
 have := (((h.set 0 y0).set 1 y1).set 2 y2).set 3 y3
 simpa using this
end Go.Proofs.YtdkimcnlhmhpgaaGreat
