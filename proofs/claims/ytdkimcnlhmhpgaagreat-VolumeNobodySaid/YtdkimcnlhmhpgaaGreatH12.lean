/- -/
import Derived.Test.YtdkimcnlhmhpgaaGreatH05
import Derived.Test.YtdkimcnlhmhpgaaGreatH10
import Derived.Test.YtdkimcnlhmhpgaaGreatH11
import Derived.Lib.AppendStr
set_option linter.unusedVariables false
set_option linter.unusedSimpArgs false
namespace Go.Proofs.YtdkimcnlhmhpgaaGreat
open Go.RowKit Go.Shelf
theorem retM {n : Nat} {P : Program} {fn : Func} {R : Ending → World → Prop} {tmps : Array Value} {w : World} {v : Value} (hv : (results fn tmps).run P w = .ok v w) (h : R (.returned v) w) :
  bodyPostM Fence.wide n P fn R .ret { tmps := tmps, defers := [] } w := ⟨v, hv, h⟩
theorem retMD {n : Nat} {P : Program} {fn : Func} {R : Ending → World → Prop} {tmps : Array Value} {w : World} {v : Value} {D : Nat} (hK : w.heap[D]? = some (.deferred (some []))) (hv : (results fn tmps).run P (w.putObj D (.deferred none)) = .ok v (w.putObj D (.deferred none))) (h : R (.returned v) (w.putObj D (.deferred none))) :
  bodyPostM Fence.wide n P fn R .ret { tmps := tmps, defers := [{ target := .collected D, args := #[] }] } w := ⟨by simp, .inl ⟨_, _, rfl, run_takeDeferred hK, v, hv, h⟩⟩
theorem kept_putObj (w : World) (D : Nat) (o : Obj) : Kept [D] w (w.putObj D o) :=
 (Kept.refl [D] w).grown (grownBy_putObj' w D o) (fun k hk => by injection hk with hk; exact Or.inl (by simp [hk]))
theorem kept_below {B : Nat} {w w2 W : World} (k : Kept [] w w2) (h : Below B w2 W) (hB : w.heap.size ≤ B) : Kept [] w W :=
 ⟨h.os.trans k.os, h.tape.trans k.tape, h.output.trans k.output, Nat.le_trans k.size h.size, fun j hj _ => (h.block j (by omega)).trans (k.block j hj (by simp))⟩
theorem rowpos_shape {W : World} {base : Nat} {e : TypeId} {size : Nat} {v : Value} {k : Nat} {xs : List Value} (h : W.ownsRow base e size v k xs) (hk : 0 < k) : ∃ g cap, v = .slice (some ⟨g, 0, none⟩) k cap := by
 rcases h.2 with ⟨_, h0⟩ | ⟨g, cap, _, rfl, _⟩
 ·omega
 ·exact ⟨g, cap, rfl⟩
theorem addr_add (g k : Nat) : (⟨g, 0, none⟩ : Addr).add k = ⟨g, k, none⟩ := by
 unfold Addr.add
 by_cases h : k = 0
 ·subst h; rfl
 ·simp [h]
theorem strCells_append (a b : List UInt8) : Lib.strCells (bs (a ++ b)) = Lib.strCells (bs a) ++ Lib.strCells (bs b) := by simp [Lib.strCells, bs]
theorem wpListIn_append_own_string {F : Fence} {n' : Nat} {P : Program} {ops : Array Oper} {rest : List Oper} {o : Oper} {a : Act} {Q : Exit → Act → World → Prop} (w : World) (hgd : o.guard = none) (sl x : Operand) (t u : TypeId)
  (ho : o.op = .call { callee := .builtin .append, args := #[sl, x], argTypes := #[t, u] })
  (base : Nat) (e : TypeId) (i : TypeInfo) (ht : P.underlying t = some (.slice e)) (hu : P.underlying u = some .string) (hi : P.info? e = some i) (hz : i.zero = some (.int .u8 0))
  (hsize : i.size = 1) (hby : i.bytes = 1)
  (v : Value) (n : Nat) (xs : List Value) (hs : a.eval sl = v) (hown : w.ownsRow base e 1 v n xs) (s : ByteArray) (hx : a.eval x = .string s)
  (h63 : n + s.size ≤ maxLen) (hbytes : n + s.size ≤ 140737488355328) (hbase : base ≤ w.heap.size)
  (h : ∀ v' w', w'.ownsRow base e 1 v' (n + s.size) (xs ++ Lib.strCells s) → w.grownBy w' v.ownBlock → (v' = .slice none 0 0 ↔ v = .slice none 0 0 ∧ s.size = 0) → wpListIn F n' P ops Q rest (a.put o.dst v') w') : wpListIn F n' P ops Q (o :: rest) a w := by
 refine wpListIn_plain hgd fun K hK => ?_
 obtain ⟨v', w', hr, h2, h3, h4⟩ := Lib.run_append_own_string (P := P) w base t u o.type e i ht hu hi hz hsize hby v n xs hown s h63 hbytes hbase
 unfold Oper.wpIn
 refine ⟨?_, ?_⟩
 ·simp [Oper.about, ho, resolve, Target.leads, Sem.run_pure]
 ·rw [Oper.semAt_plain F _ _ (by rw [ho]; intro c hc'; cases hc')]
  simp [execOp, ho, resolve, invoke, builtin, hs, hx, hr, Result.andThen]
  exact hK _ _ (h v' w' h2 h3 h4)
theorem Boxed.appended0 {W w1 : World} {n₀ B : Nat} {t e : TypeId} {size : Nat} {v v' : Value} {k m : Nat} {xs ys : List Value}
  (hv : Boxed W B t v) (hte : t ≠ e) (hrow : W.ownsRow n₀ e size v k xs) (hn₀ : n₀ ≤ W.heap.size) (hB : n₀ ≤ B)
  (hown' : w1.ownsRow n₀ e size v' m ys) (hgrow : W.grownBy w1 v.ownBlock) :
  Boxed w1 B t v ∧ Boxed (w1.setCell ⟨B, 0, none⟩ v') B t v' ∧ (w1.setCell ⟨B, 0, none⟩ v').ownsRow n₀ e size v' m ys ∧ KeepsOthers W (w1.setCell ⟨B, 0, none⟩ v') ∧ Below n₀ W (w1.setCell ⟨B, 0, none⟩ v') := by
 have hv1 : Boxed w1 B t v := hv.kept hgrow (hv.not_row hte hrow)
 refine ⟨hv1, hv1.set v', hown'.kept (grownBy_setCell' w1 B v') (.inr (hv1.not_row hte hown').symm), ?_, ?_⟩
 ·refine (KeepsOthers.of_grownBy hgrow fun j o ej hj => ?_).trans (KeepsOthers.setCell _ _ _)
  rcases hrow.2 with ⟨rfl, _⟩ | ⟨g, cap, cur, rfl, _, hgb, _⟩
  ·simp [Value.ownBlock] at ej
  ·obtain rfl : g = j := by simpa [Value.ownBlock] using ej
   rw [hgb] at hj; cases hj; rfl
 ·refine ((Below.refl n₀ W).grown hgrow hn₀ fun j ej => ?_).setCell (p := ⟨B, 0, none⟩) hB v'
  rcases hrow.2 with ⟨rfl, _⟩ | ⟨g, cap, cur, rfl, hb, _, _⟩
  ·simp [Value.ownBlock] at ej
  ·obtain rfl : g = j := by simpa [Value.ownBlock] using ej
   exact hb
theorem kpr_append0 {W w1 : World} {n₀ B base size k : Nat} {t e : TypeId} {v v' : Value} {xs : List Value} (hv : Boxed W B t v) (ht : t ≠ 128) (hrow : W.ownsRow base e size v k xs) (he : e ≠ 128)
  (hgrow : W.grownBy w1 v.ownBlock) (hb : Below n₀ W (w1.setCell ⟨B, 0, none⟩ v')) : KpR n₀ W (w1.setCell ⟨B, 0, none⟩ v') := by
 refine ⟨hb, fun i cs f hk => ?_⟩
 have hlt : i < W.heap.size := (Array.getElem?_eq_some_iff.1 hk).1
 have h1 : i ≠ B := fun e' => by
  subst e'
  rw [show W.heap[i]? = _ from hv] at hk
  injection hk with hk
  injection hk with _ ht'
  exact ht ht'
 have h2 : some i ≠ v.ownBlock := by
  rcases hrow.2 with ⟨rfl, _⟩ | ⟨g, cap, cur, rfl, _, hgb, _⟩
  ·simp [Value.ownBlock]
  ·intro e'
   obtain rfl : i = g := by simpa [Value.ownBlock] using e'
   rw [hgb] at hk
   injection hk with hk
   injection hk with _ he'
   exact he he'
 exact (Below.heap_setCell _ _ _ _ h1).trans ((hgrow.block i hlt h2).trans hk)
end Go.Proofs.YtdkimcnlhmhpgaaGreat

/- -/
namespace Go.Proofs.YtdkimcnlhmhpgaaGreat
open Go.RowKit
def AsideW (lim : Nat) (w w' : World) : Prop :=
 w.heap.size ≤ w'.heap.size ∧ ∀ g o, lim ≤ g → w.heap[g]? = some o → (∀ cs f, o ≠ .cells cs 206 f) → w'.heap[g]? = some o
theorem AsideW.trans {lim : Nat} {a b c : World} (h : AsideW lim a b) (k : AsideW lim b c) : AsideW lim a c :=
 ⟨Nat.le_trans h.1 k.1, fun g o hg ho ht => k.2 g o hg (h.2 g o hg ho ht) ht⟩
theorem Kept.asideW {w w' : World} (k : Kept [] w w') (lim : Nat) : AsideW lim w w' := ⟨k.size, fun g o _ ho _ => by
 rw [k.block g (Array.getElem?_eq_some_iff.1 ho).1 (by simp)]; exact ho⟩
theorem BKept.asideW {b sb mb lo r lim : Nat} {w w' : World} (k : BKept b sb mb lo r w w') (h1 : b < lim) (h2 : sb < lim) (h3 : mb < lim) (h4 : r < lim) : AsideW lim w w' :=
 ⟨k.2.2.2.1, fun g o hg ho ht => by
  have hlt := (Array.getElem?_eq_some_iff.1 ho).1
  rw [k.2.2.2.2 g hlt (by omega) (by omega) (by omega) (by omega) (Or.inr (fun cs f hc => by
   rw [ho] at hc
   injection hc with hc
   exact ht cs f hc))]
  exact ho⟩
theorem AsideW.own {lim : Nat} {w w' : World} {g : Nat} {cs : Array Value} {t : TypeId} (k : AsideW lim w w') (o : Own w g cs t) (hg : lim ≤ g) (ht : t ≠ 206) : Own w' g cs t :=
 k.2 g _ hg o (fun cs' f e => by injection e with _ e; exact ht e)
theorem AsideW.row {lim : Nat} {w w' : World} {base : Nat} {e : TypeId} {size : Nat} {v : Value} {n : Nat} {xs : List Value} (k : AsideW lim w w') (h : w.ownsRow base e size v n xs) (hb : lim ≤ base) (ht : e ≠ 206) : w'.ownsRow base e size v n xs :=
 ownsRow_same h (fun g cs hg hc => by
  have := k.2 g _ (by omega) hc (fun cs' f e' => by injection e' with _ e'; exact ht e')
  rw [this, hc])
theorem AsideW.obj {lim : Nat} {w w' : World} {D : Nat} {o : Obj} (k : AsideW lim w w') (h : w.heap[D]? = some o) (hD : lim ≤ D) (ho : ∀ cs t f, o ≠ .cells cs t f) : w'.heap[D]? = some o :=
 k.2 D o hD h (fun cs f => ho cs _ f)
theorem DiskAt.putD {w w' : World} {D b sb mb dlo : Nat} {x : Option (List Deferred)} {e : DK} (hD : DiskAt w b sb mb dlo e) (ho : w.heap[D]? = some (.deferred x)) (k : Kept [D] w w') : DiskAt w' b sb mb dlo e := by
 obtain ⟨wv2, n, ob, os, hw, hm, hn, g2, g3, g4, g5, g6, g7⟩ := hD
 have ne : ∀ g cs t, w.heap[g]? = some (.cells cs t (0, 0)) → g ∉ [D] := by
  intro g cs t hc hx
  have hx : g = D := by simpa using hx
  subst hx
  rw [ho] at hc
  cases hc
 refine ⟨wv2, n, k.own ob (ne b _ _ ob), k.own os (ne sb _ _ os), ownsRow_keptT hw k (fun g hg _ cs hc => ne g _ _ hc hg), hm.kept k ?_, hn, g2, g3, g4, g5, Nat.le_trans g6 k.size, g7⟩
 intro hx
 have hx : mb = D := by simpa using hx
 subst hx
 obtain ⟨D, ⟨es, clock, hh, _⟩, _⟩ := hm
 rw [hh] at ho
 cases ho
structure BOps (Inv : DK → World → Prop) (b lim : Nat) : Prop where
 ops : DOps Inv b
 writeB : ∀ {d w} (i : Int) (s : List UInt8), Inv d w → d.ops < 100000 → d.waits.length ≤ 10000 → Calls Tryz.prog 88 #[.pointer (some ⟨b, 0, none⟩), .int .i64 i, .string (bs s)] w fun e w' => e = .returned (.int .i64 (wCode d i s)) ∧ Inv (wNext d i s) w' ∧ AsideW lim w w'
 putD : ∀ {d w w' D x}, Inv d w → w.heap[D]? = some (.deferred x) → Kept [D] w w' → lim ≤ D → Inv d w'
end Go.Proofs.YtdkimcnlhmhpgaaGreat
