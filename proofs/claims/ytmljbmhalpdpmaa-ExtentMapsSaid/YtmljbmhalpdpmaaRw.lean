/- A row of one-cell elements in a block of the call's own, element by element. -/
import Derived.Test.YtmljbmhalpdpmaaKept
import Derived.Laws.MakeOwn
import Derived.Maps.AppendAt
import Derived.Deep.AppendLies
import Derived.RegionTactic
import Derived.OwnWalk
namespace Go.Proofs.Ytmljbmhalpdpmaa
open Go.RowKit
set_option linter.unusedVariables false
set_option linter.unusedSimpArgs false

/-- block g holds elements of type t; its first n cells are those of f. -/
def Rw (w : World) (g : Nat) (t : TypeId) (n : Nat) (f : Nat → Value) : Prop := ∃ cs, Own w g cs t ∧ ∀ i, i < n → cs[i]? = some (f i)
section
variable {w w' : World} {g n : Nat} {t : TypeId} {f : Nat → Value}
theorem Rw.lt (h : Rw w g t n f) : g < w.heap.size := by obtain ⟨cs, o, _⟩ := h; exact o.lt
theorem Rw.cell (h : Rw w g t n f) (i : Nat) (hi : i < n) : w.cell? ⟨g, i, none⟩ = some (f i) := by
  obtain ⟨cs, o, hc⟩ := h
  have h1 := hc i hi
  obtain ⟨hlt, e⟩ := Array.getElem?_eq_some_iff.1 h1
  rw [o.cell i hlt, e]
theorem Rw.free (h : Rw w g t n f) (i : Nat) : w.frozen? ⟨g, i, none⟩ = false := by obtain ⟨cs, o, _⟩ := h; exact o.free i
theorem Rw.drew (h : Rw w g t n f) : Rw w.drew g t n f := h
theorem Rw.drewN (h : Rw w g t n f) (k : Nat) : Rw (w.drewN k) g t n f := h
theorem Rw.alloc (h : Rw w g t n f) (o : Obj) : Rw (w.alloc o) g t n f := by obtain ⟨cs, ho, hc⟩ := h; exact ⟨cs, ho.alloc o, hc⟩
theorem Rw.kept {S : List Nat} (h : Rw w g t n f) (k : Kept S w w') (hg : g ∉ S) : Rw w' g t n f := by obtain ⟨cs, ho, hc⟩ := h; exact ⟨cs, k.own ho hg, hc⟩
theorem Rw.other (h : Rw w g t n f) {p : Addr} (hp : g ≠ p.block) (u : Value) : Rw (w.setCell p u) g t n f := by obtain ⟨cs, ho, hc⟩ := h; exact ⟨cs, ho.other hp u, hc⟩
theorem Rw.congr (h : Rw w g t n f) {f' : Nat → Value} (e : ∀ i, i < n → f i = f' i) : Rw w g t n f' := by
  obtain ⟨cs, ho, hc⟩ := h; exact ⟨cs, ho, fun i hi => by rw [hc i hi, e i hi]⟩
theorem Rw.set (h : Rw w g t n f) (i : Nat) (hi : i < n) (u : Value) (f' : Nat → Value) (e1 : f' i = u) (e2 : ∀ j, j < n → j ≠ i → f' j = f j) : Rw (w.setCell ⟨g, i, none⟩ u) g t n f' := by
  obtain ⟨cs, ho, hc⟩ := h
  refine ⟨_, ho.set i u, fun j hj => ?_⟩
  obtain ⟨hlt, _⟩ := Array.getElem?_eq_some_iff.1 (hc i hi)
  by_cases hji : i = j
  · subst hji; rw [Array.getElem?_setIfInBounds_self_of_lt hlt, e1]
  · rw [Array.getElem?_setIfInBounds_ne hji, hc j hj, e2 j hj (fun e => hji e.symm)]
theorem Rw.le (h : Rw w g t n f) {m : Nat} (hm : m ≤ n) : Rw w g t m f := by
  obtain ⟨cs, ho, hc⟩ := h; exact ⟨cs, ho, fun i hi => hc i (by omega)⟩
end
theorem Rw.made (w : World) (t : TypeId) (n : Nat) (z : Value) : Rw (w.alloc (.cells (Array.replicate n z) t)) w.heap.size t n (fun _ => z) :=
  ⟨_, Own.new _ _ _, fun i hi => by simp [hi]⟩
/-- a row made, of one-cell elements. -/
theorem run_make_rep {P : Program} (t e : TypeId) (i : TypeInfo) (z : Value) (ht : P.underlying t = some (.slice e)) (hi : P.info? e = some i) (hz : i.zero = some z) (hsize : i.size = 1) (hzc : z.cells = #[z])
    (n : Nat) (hb : i.bytes * n ≤ 281474976710656) (hn : n ≤ 9223372036854775807) (w : World) :
    (Instr.makeSlice t (.int .i64 n) (.int .i64 n)).run P w = .ok (.slice (some ⟨w.heap.size, 0, none⟩) n n) (w.alloc (.cells (Array.replicate n z) e)) := by
  have hb' : (i.bytes : Int) * (n : Int) ≤ 281474976710656 := by
    have h : ((i.bytes * n : Nat) : Int) ≤ 281474976710656 := by omega
    rwa [Int.natCast_mul] at h
  have h := run_make (P := P) w t e i z ht hi hz .i64 .i64 n n (by omega) (by omega) hb' (by omega)
  rw [h, hsize, hzc]
  simp only [Int.toNat_natCast, Nat.mul_one]
  congr 3
  apply Array.toList_inj.1
  rw [toList_madeCells_one]
  simp
/-- append, by its run. -/
theorem wp_append_run {P : Program} {w : World} {o : Oper} {a : Act} {K : Act → World → Prop} {Q : Exit → Act → World → Prop} (s x : Operand) (ts : Array TypeId)
    (ho : o.op = .call { callee := .builtin .append, args := #[s, x], argTypes := ts }) (v u : Value) (hs : a.eval s = v) (hx : a.eval x = u) (v' : Value) (w' : World)
    (hrun : (Builtin.append_ ts o.type #[v, u]).run P w = .ok v' w') (h : K (a.put o.dst v') w') : o.wp P a w K Q := by
  unfold Oper.wp execOp
  simp only [ho, resolve, invoke, builtin, Sem.run_bind, Sem.run_pure, Result.andThen_ok, List.map_toArray, List.map_cons, List.map_nil, hs, hx, hrun]
  exact h
theorem wpList_append_run {P : Program} {w : World} {ops : Array Oper} {rest : List Oper} {o : Oper} {a : Act} {Q : Exit → Act → World → Prop} (hgd : o.guard = none) (s x : Operand) (ts : Array TypeId)
    (ho : o.op = .call { callee := .builtin .append, args := #[s, x], argTypes := ts }) (v u : Value) (hs : a.eval s = v) (hx : a.eval x = u) (v' : Value) (w' : World)
    (hrun : (Builtin.append_ ts o.type #[v, u]).run P w = .ok v' w') (h : wpList P ops Q rest (a.put o.dst v') w') : wpList P ops Q (o :: rest) a w :=
  wpList_plain hgd fun _ hK => wp_append_run s x ts ho v u hs hx v' w' hrun (hK _ _ h)
end Go.Proofs.Ytmljbmhalpdpmaa
