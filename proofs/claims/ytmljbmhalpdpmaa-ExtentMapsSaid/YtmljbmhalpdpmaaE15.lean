/- Layer 10 (extent): runs of two lists one behind the other; Join, on both sides. -/
import Derived.Test.YtmljbmhalpdpmaaE13
import Derived.Test.YtmljbmhalpdpmaaRowApp
import Derived.LoopN
import Derived.Lib.AppendZerosOnto
import Derived.Lib.Walk
import Derived.Lib.SliceRun
namespace Go.Proofs.Ytmljbmhalpdpmaa
open Go.RowKit
set_option linter.unusedVariables false
set_option linter.unusedSimpArgs false

theorem run_append_none_any {P : Program} {w : World} (base : Nat) (t ty e : TypeId) (i : TypeInfo) (size : Nat) (ht : P.underlying t = some (.slice e)) (hi : P.info? e = some i)
    (v : Value) (n c : Nat) (xs : List Value) (hown : w.ownsRow base e size v n xs) :
    (Builtin.append_ #[t, t] ty #[v, .slice none 0 c]).run P w = .ok v w := by
  rcases hown.2 with ⟨rfl, rfl⟩ | ⟨g, cap, cur, rfl, _, _, hnc, _⟩
  · simp [Builtin.append_, run_underlying ht, sizeOf, typeInfo, hi, Builtin.lenOf, Builtin.firstCells]
  · simp [Builtin.append_, run_underlying ht, sizeOf, typeInfo, hi, Builtin.lenOf, Builtin.firstCells, hnc, storeCells]
theorem wpList_append_runs {w : World} {ops : Array Oper} {rest : List Oper} {o : Oper} {a : Act} {Q : Exit → Act → World → Prop} (hgd : o.guard = none) (s x : Operand)
    (ho : o.op = .call { callee := .builtin .append, args := #[s, x], argTypes := #[22, 22] })
    (base : Nat) (v : Value) (n : Nat) (xs : List Value) (hs : a.eval s = v) (hown : w.ownsRow base 57 2 v n xs)
    (u : Value) (l : List (Int × Int)) (lo hi : Nat) (hx : a.eval x = u) (hsrc : RunsIn w u l lo hi)
    (h63 : n + l.length ≤ maxLen) (hbytes : (n + l.length) * 16 ≤ 140737488355328) (hbase : base ≤ w.heap.size)
    (h : ∀ v' w', w'.ownsRow base 57 2 v' (n + l.length) (xs ++ rcells l) → w.grownBy w' v.ownBlock → wpList Try.prog ops Q rest (a.put o.dst v') w') :
    wpList Try.prog ops Q (o :: rest) a w := by
  obtain ⟨i0, q0, q1, q2, q3⟩ := infoRun
  obtain ⟨p, c, rfl⟩ := hsrc.shape
  cases p with
  | none =>
    have hl0 : l = [] := by
      rcases hsrc with ⟨h, _⟩ | ⟨b, off, c', e, _⟩
      · exact h
      · simp at e
    subst hl0
    refine wpList_plain hgd fun K hK => ?_
    have hrun := run_append_none_any (P := Try.prog) (w := w) base 22 o.type 57 i0 2 Try.underlying22 q0 v n c xs hown
    have hx' : a.eval x = .slice none 0 c := hx
    unfold Oper.wp
    simp [execOp, ho, resolve, invoke, builtin, hs, hx', hrun, Result.andThen]
    exact hK _ _ (h v w (by simpa [rcells] using hown) (grownBy_refl _ _))
  | some ad =>
    have hcell : ∀ j u, (rcells l)[j]? = some u → w.cell? (ad.add j) = some u := by
      rcases hsrc with ⟨rfl, _⟩ | ⟨b, off, c', e, h2⟩
      · intro j u hj; simp [rcells] at hj
      · simp at e
        obtain ⟨rfl, rfl⟩ := e
        have hh : RunsIn w (.slice (some ⟨b, off, none⟩) l.length c) l lo hi := Or.inr ⟨b, off, c, rfl, h2⟩
        intro j u hj
        rw [Go.WideShapes.add_plain]
        exact hh.cells j u hj
    refine wpList_append_own_at w hgd s x 22 ho base 57 i0 _ 2 16 Try.underlying22 q0 q1 q2 q3 rfl (by decide) v n xs hs hown ad l.length c (rcells l) hx (rcells_len l) hcell (rcells_one l) h63 hbytes hbase ?_
    intro v' w' h2 h3 _ _
    exact h v' w' h2 h3
set_option maxRecDepth 100000 in
set_option maxHeartbeats 2000000 in
theorem pgrow (n : Nat) (w : World) (hn : n ≤ 2000000) : Calls Try.prog 52 #[.slice none 0 0, .int .i64 n] w fun e w' => ∃ v, e = .returned v ∧ w'.ownsRow w.heap.size 57 2 v 0 [] ∧ Kept [] w w' := by
  obtain ⟨i0, q0, q1, q2, q3⟩ := infoRun
  by_cases h0 : n = 0
  · subst h0
    go_enter Try.func52, Try.ntmps52
    go_wp2_with fail
    go_ret
    exact ⟨_, rfl, World.ownsRow_nil _ _ _ _, Kept.refl _ _⟩
  · have h := fun ty => Lib.run_append_grow_zeros (P := Try.prog) w 22 3 ty 57 i0 (.agg #[.int .i64 0, .int .i64 0]) .i64 .i64 Try.underlying22 Try.underlying3 q0 q1 none 0 0 [] (run_firstCells_none w.drew i0.size 0 0 0) n (by omega) (by omega) (by omega) (by omega) (by rw [q3]; omega) (by rw [q3]; exact growslice_fits (by omega) (by omega))
    rw [Nat.zero_add] at h
    have hG63 := grownCap_le_maxLen w n 0 57 (by unfold maxLen; omega)
    obtain ⟨G, hG⟩ : ∃ G, G = grownCap w n 0 57 := ⟨_, rfl⟩
    have hGn : n ≤ grownCap w n 0 57 := grownCap_ge w _ _ _
    rw [← hG] at h hG63 hGn
    have hn0 : 0 < (n : Int) := by omega
    have hn2 : (n : Int) ≤ 2000000 := by omega
    clear hG
    go_enter Try.func52, Try.ntmps52
    go_wp2_with (at_builtin; refine Lib.wpList_append_run _ rfl _ _ _ _ rfl _ _ rfl rfl _ _ (h _) ?_)
    go_ret
    refine ⟨_, rfl, World.ownsRow_made w.drew _ G (Nat.le_refl _) hG63 ?_, ((Kept.refl _ _).drewN 1).alloc _⟩
    simp [Builtin.zeroCells]
    omega
set_option maxRecDepth 100000 in
set_option maxHeartbeats 4000000 in
theorem pconcat (b : Nat) (va : Value) (la : List (Int × Int)) (loa hia : Nat) (vb : Value) (lb : List (Int × Int)) (lob hib : Nat) (w : World) (ha : RunsIn w va la loa hia) (hb : RunsIn w vb lb lob hib) (hla : la.length ≤ 1000000) (hlb : lb.length ≤ 1000000)
    (hc0 : w.cell? ⟨b, 0, none⟩ = some va) (hc1 : w.cell? ⟨b, 1, none⟩ = some vb) (hbw : b < w.heap.size) :
    Calls Try.prog 40 #[.slice (some ⟨b, 0, none⟩) 2 2] w fun e w' => ∃ v, e = .returned v ∧ w'.ownsRow w.heap.size 57 2 v (la.length + lb.length) (rcells (la ++ lb)) ∧ Kept [] w w' := by
  obtain ⟨pa, ca, rfl⟩ := ha.shape
  obtain ⟨pb, cb, rfl⟩ := hb.shape
  have hg := fun W => pgrow (la.length + lb.length) W (by omega)
  have ecast : ((la.length + lb.length : Nat) : Int) = (la.length : Int) + (lb.length : Int) := by omega
  simp only [ecast] at hg
  have hla' : (la.length : Int) ≤ 1000000 := by omega
  have hlb' : (lb.length : Int) ≤ 1000000 := by omega
  have HA := Lib.hid ha
  have HB := Lib.hid hb
  have HG := Lib.hid hg
  clear ha hb hg ecast
  obtain ⟨na, hna⟩ : ∃ na : Nat, la.length = na := ⟨_, rfl⟩
  obtain ⟨nb, hnb⟩ : ∃ nb : Nat, lb.length = nb := ⟨_, rfl⟩
  rw [hna] at HA HG hla hla' hc0 ⊢
  rw [hnb] at HB HG hlb hlb' hc1 ⊢
  have HNA := Lib.hid hna
  have HNB := Lib.hid hnb
  clear hna hnb
  go_enter Try.func40, Try.ntmps40
  go_wp2_with fail
  refine wp_loop_rounds 3 ?_
  rw [rounds_succ]
  go_wp2_with fail
  rw [rounds_succ]
  go_wp2_with fail
  rw [rounds_succ]
  go_wp2_with fail
  refine (HG.out _).mono ?_; rintro e w1 ⟨v1, rfl, r1, k1⟩
  have c0 := (k1.cell (a := ⟨b, 0, none⟩) hbw (by simp)).trans hc0
  have c1 := (k1.cell (a := ⟨b, 1, none⟩) hbw (by simp)).trans hc1
  have A1 := HA.out.kept0 k1
  have hs1 := k1.size
  obtain ⟨p1, q1, rfl⟩ := own_shape r1
  go_wp2_with fail
  refine wp_loop_rounds 3 ?_
  rw [rounds_succ]
  go_wp2_with (at_builtin; go_must (refine wpList_append_runs rfl (.tmp 31) (.tmp 32) rfl w.heap.size _ 0 [] rfl r1 _ la _ _ rfl A1 (by have := HNA.out; unfold maxLen; omega) (by have := HNA.out; omega) (by omega) ?_))
  intro v2 w2 r2 gr2
  have k2 : Kept [] w w2 := k1.grown gr2 (fun g hg => Or.inr (World.ownsRow.lt r1 g hg).1)
  have d0 := (k2.cell (a := ⟨b, 0, none⟩) hbw (by simp)).trans hc0
  have d1 := (k2.cell (a := ⟨b, 1, none⟩) hbw (by simp)).trans hc1
  have B2 := HB.out.kept0 k2
  have hs2 := k2.size
  try rw [HNA.out] at r2
  obtain ⟨p2, q2, rfl⟩ := own_shape r2
  clear c0 c1 gr2 A1
  go_wp2_with fail
  rw [rounds_succ]
  go_wp2_with (at_builtin; go_must (refine wpList_append_runs rfl (.tmp 31) (.tmp 32) rfl w.heap.size _ na _ rfl r2 _ lb _ _ rfl B2 (by have := HNB.out; unfold maxLen; omega) (by have := HNB.out; omega) (by omega) ?_))
  intro v3 w3 r3 gr3
  have k3 : Kept [] w w3 := k2.grown gr3 (fun g hg => Or.inr (World.ownsRow.lt r2 g hg).1)
  have hr3 : w3.ownsRow w.heap.size 57 2 v3 (na + nb) (rcells (la ++ lb)) := by
    rw [HNB.out] at r3
    have e : ([] ++ rcells la) ++ rcells lb = rcells (la ++ lb) := by simp [rcells]
    rw [← e]
    exact r3
  have HR := Lib.hid hr3
  clear r3 gr3 hr3 d0 d1
  go_wp2_with fail
  rw [rounds_succ]
  go_wp2_with fail
  go_ret
  exact ⟨_, rfl, HR.out, k3⟩
end Go.Proofs.Ytmljbmhalpdpmaa
