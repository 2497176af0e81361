/- Layer 12 (blob): what the iterator tells, up to so many. -/
import Derived.Test.YtdnbddhjdokbfaaG05
import Derived.Test.YtdnbddhjdokbfaaG25
import Derived.Test.YtdnbddhjdokbfaaG29
import Derived.Lib.AppendStr
namespace Go.Proofs.Ytdnbddhjdokbfaa
open Go.RowKit Go.Shelf
set_option linter.unusedVariables false
set_option linter.unusedSimpArgs false
attribute [local go_sem] Oper.semAt_some

/-- a round that appends to a row of its own keeps runs. -/
theorem kpr_append {W w1 : World} {n₀ B base size k : Nat} {t e : TypeId} {v v' : Value} {xs : List Value} {tmp : Obj} (hv : Boxed W B t v) (ht : t ≠ 66) (hrow : W.ownsRow base e size v k xs) (he : e ≠ 66)
    (hgrow : (W.alloc tmp).grownBy w1 v.ownBlock) (hb : Below n₀ W (w1.setCell ⟨B, 0, none⟩ v')) : KpR n₀ W (w1.setCell ⟨B, 0, none⟩ v') := by
  refine ⟨hb, fun i cs f hk => ?_⟩
  have hlt : i < W.heap.size := (Array.getElem?_eq_some_iff.1 hk).1
  have h1 : i ≠ B := fun e' => by
    subst e'
    rw [show W.heap[i]? = _ from hv] at hk
    injection hk with hk
    injection hk with _ ht'
    exact ht ht'
  have h2 : some i ≠ v.ownBlock := by
    rcases hrow.2 with ⟨rfl, _⟩ | ⟨g, cap, cur, rfl, _, hgb, _⟩
    · simp [Value.ownBlock]
    · intro e'
      obtain rfl : i = g := by simpa [Value.ownBlock] using e'
      rw [hgb] at hk
      injection hk with hk
      injection hk with _ he'
      exact he he'
  exact (Below.heap_setCell _ _ _ _ h1).trans ((hgrow.block i (by simp; omega) h2).trans ((Below.heap_alloc _ _ _ hlt).trans hk))
def ToldSays (l : List (Int × Int)) (most : Nat) (w : World) (e : Ending) (w' : World) : Prop :=
  ∃ u, e = .returned (.tuple #[u, .bool true]) ∧ w'.ownsRow w.heap.size 3 1 u ((secsE l).take most).length (intsV ((secsE l).take most)) ∧ Kept [] w w'
set_option maxRecDepth 100000 in
set_option maxHeartbeats 2000000 in
theorem btold (v : Value) (l : List (Int × Int)) (most : Nat) (lo hi : Nat) (w : World) (h : RunsIn w v l lo hi) (hl : l.length ≤ 1000000) (hwf : ∀ a ∈ l, WfRun a) (hmost : most ≤ 100000) :
    Calls Try.prog 8 #[v, .int .i64 (most : Int)] w (ToldSays l most w) := by
  have HE : ∀ W, Kept [] w W → Calls Try.prog 29 #[v] W fun e w' => ∃ f, e = .returned f ∧ Kept [] W w' ∧ TellsR 5 W.heap.size l f w' := fun W k => bEach 5 (by omega) v l lo hi W (h.kept0 k) hl hwf
  refine (callsIn_wide (n := 6)).1 ?_
  refine callsIn_of_wp_marks Try.func8 rfl trivial ?_ rfl
  simp only [Try.ntmps8, List.size_toArray, List.length_cons, List.length_nil, Nat.reduceAdd, Nat.reduceSub, Array.replicate_succ, Array.replicate_zero, List.push_toArray, List.append_toArray, List.nil_append, List.cons_append]
  have hEq : ∀ (b1 b2 : Nat) (W : World), Sem.run Try.prog (binOp BinOp.eql 63 (Value.func (Fn.func 57) #[] #[Value.pointer (some ⟨b1, 0, none⟩), Value.pointer (some ⟨b2, 0, none⟩)]) Value.nilFunc) W = .ok (.bool false) W := fun _ _ _ => rfl
  have k0 := (Kept.refl [] w).alloc (.cells #[.int .i64 (most : Int)] 3)
  gi_wp2_with (refine ⟨trivial, ?_⟩; gi_at_call 29; refine (callsIn_wide.2 (HE _ k0)).mono ?_; rintro e w1 ⟨f, rfl, k1, B1, B2, rfl, hT⟩)
  obtain ⟨i0, q0, q1, q2, q3⟩ := infoInt
  have hN8 := secsE_le l
  have k01 := k0.trans k1
  have om := k1.own (Own.new w #[.int .i64 (most : Int)] 3) (by simp)
  have hs1 := k01.size
  have bO := Boxed.new w1 24 (.slice none 0 0)
  have hs0 : w.heap.size + 1 ≤ w1.heap.size := by have := k1.size; simpa using this
  refine wpIn_rangeFunc_ownG rfl (by omega) (gf := 57) (lb := #[.pointer (some ⟨B1, 0, none⟩), .pointer (some ⟨B2, 0, none⟩)]) rfl trivial (enters_of Try.func57 (by kernel_rfl) rfl)
    hT (fun h k => KpR.trans h k) (KpR.turn (by simp; omega)) ((Below.refl _ w1).alloc (Nat.le_refl _) _) (fun _ => rfl)
    (fun (pre : List Nat) W => (∃ v, Boxed W w1.heap.size 24 v ∧ W.ownsRow w1.heap.size 3 1 v pre.length (intsV pre) ∧ pre.length ≤ most) ∧ Below w1.heap.size w1 W)
    (fun c (pre : List Nat) W => (∃ v, Boxed W w1.heap.size 24 v ∧ W.ownsRow w1.heap.size 3 1 v (pre.take most).length (intsV (pre.take most)) ∧ (c = .exit 0 ∧ pre.length = most + 1)) ∧ Below w1.heap.size w1 W)
    (OwnFrom.and (Go.Own.from (holdsRow_own w1.heap.size w1.heap.size 24 3 1 (fun pre : List Nat => pre.length) (fun pre : List Nat => intsV pre) (fun (pre : List Nat) v => pre.length ≤ most)) _) (ownFrom_below (Nat.le_refl _) (by simp)))
    (fun c => OwnFrom.and (Go.Own.from (holdsRow_own w1.heap.size w1.heap.size 24 3 1 (fun pre : List Nat => (pre.take most).length) (fun pre : List Nat => intsV (pre.take most)) (fun (pre : List Nat) v => c = .exit 0 ∧ pre.length = most + 1)) _) (ownFrom_below (Nat.le_refl _) (by simp)))
    ⟨⟨_, bO, World.ownsRow_nil _ _ _ _, Nat.zero_le _⟩, (Below.refl _ w1).alloc (Nat.le_refl _) _⟩
    (fun x => { tmps := #[v, .int .i64 (most : Int), undef, .pointer (some ⟨w.heap.size, 0, none⟩), .slice none 0 0, .bool false, .func (.func 57) #[] #[.pointer (some ⟨B1, 0, none⟩), .pointer (some ⟨B2, 0, none⟩)], .pointer (some ⟨w1.heap.size, 0, none⟩), .int .i64 ((x : Nat) : Int), v, .func (.func 57) #[] #[.pointer (some ⟨B1, 0, none⟩), .pointer (some ⟨B2, 0, none⟩)], .func (.func 57) #[] #[.pointer (some ⟨B1, 0, none⟩), .pointer (some ⟨B2, 0, none⟩)], .bool false, .func (.func 57) #[] #[.pointer (some ⟨B1, 0, none⟩), .pointer (some ⟨B2, 0, none⟩)], .int .i64 ((x : Nat) : Int), undef, undef, undef, undef, undef, undef, undef, undef, undef], defers := [] }) ?assign ?body ?done ?stop
  case assign =>
    intro l x W K hK
    gi_wp2
    exact hK
  case body =>
    rintro lp pre x W ⟨⟨u, hv, hrow, hle⟩, hB⟩ hlt
    have hc := hv.cell
    have hcm : W.cell? ⟨w.heap.size, 0, none⟩ = some (.int .i64 (most : Int)) := (hB.cell (p := ⟨w.heap.size, 0, none⟩) om.lt).trans (Boxed.cell (t := 3) om)
    have hszB := hB.size
    obtain ⟨pu, cu, rfl⟩ := own_shape hrow
    by_cases hfull : pre.length < most
    · have i1 : (pre.length : Int) < most := by omega
      gi_wp2_with (gi_at_builtin; refine wpListIn_append_own _ rfl _ _ 24 rfl w1.heap.size 3 i0 (.int .i64 0) 1 8 Try.underlying24 q0 q1 q2 q3 rfl (by decide) _ _ _ rfl (hrow.alloc _) ⟨W.heap.size, 0, none⟩ 1 1 [.int .i64 ((x : Nat) : Int)] rfl rfl (cell_one_new _ _ _) (by simp [Value.oneCell']) (by unfold maxLen; omega) (by omega) (by simp; omega) ?_; intro v' w2 hown' hgrow _; obtain ⟨g', cap', rfl⟩ := ownsRow_succ hown'; obtain ⟨hv1, hv2, hr2, hk2, hb2⟩ := hv.appended (by decide) hrow hszB (Nat.le_refl _) hown' hgrow; have hc1 := hv1.cell; have hf1 := hv1.frozen)
      exact ⟨hk2.from _, kpr_append hv (by decide) hrow (by decide) hgrow (hb2.mono (by simpa using hs0)), ⟨_, hv2, by simpa [intsV] using hr2, by simp; omega⟩, hB.trans hb2⟩
    · have hpm : pre.length = most := by omega
      have i1 : (pre.length : Int) = most := by omega
      gi_wp2
      exact ⟨KeepsFrom.refl _ _, ⟨_, hv, by rw [List.take_append_of_le_length (by omega), ← hpm, List.take_length]; exact hrow, rfl, by simp [hpm]⟩, hB⟩
  case done =>
    rintro D ys W hD rfl ⟨⟨u, hv, hrow, hle⟩, hB⟩ hK
    have hc := hv.cell
    gi_wp2
    refine ⟨by simp, .inl ⟨_, _, rfl, run_takeDeferred hK, ?_⟩⟩
    refine ⟨.tuple #[u, .bool true], by simp [results, Try.f8, go_sem], u, rfl, ?_, k01.trans (Kept.of_below (hB.trans (belowK_b (w := w1) (Nat.le_refl _) W D _ _ (by simp at hD; omega) hK rfl rfl)))⟩
    rw [List.take_of_length_le hle]
    exact ownsRow_base (ownsRow_putObj hrow _ hK rfl) (by omega)
  case stop =>
    rintro D c pre W hD hpre ⟨⟨u, hv, hrow, rfl, hlen⟩, hB⟩ hK
    have hc := hv.cell
    have ht : (secsE l).take most = pre.take most := by
      obtain ⟨tl, htl⟩ := hpre
      rw [← htl, List.take_append_of_le_length (by omega)]
    have HT := Lib.hid ht
    clear ht
    gi_wp2
    refine ⟨by simp, .inl ⟨_, _, rfl, run_takeDeferred hK, ?_⟩⟩
    refine ⟨.tuple #[u, .bool true], by simp [results, Try.f8, go_sem], u, rfl, ?_, k01.trans (Kept.of_below (hB.trans (belowK_b (w := w1) (Nat.le_refl _) W D _ _ (by simp at hD; omega) hK rfl rfl)))⟩
    rw [HT.out]
    exact ownsRow_base (ownsRow_putObj hrow _ hK rfl) (by omega)
end Go.Proofs.Ytdnbddhjdokbfaa

/- Layer 12 (blob): a function with a range over a function leaves; a text appended within a round. -/
namespace Go.Proofs.Ytdnbddhjdokbfaa
open Go.RowKit Go.Shelf
set_option linter.unusedVariables false
set_option linter.unusedSimpArgs false

theorem retM {n : Nat} {P : Program} {fn : Func} {R : Ending → World → Prop} {tmps : Array Value} {w : World} {v : Value} (hv : (results fn tmps).run P w = .ok v w) (h : R (.returned v) w) :
    bodyPostM Fence.wide n P fn R .ret { tmps := tmps, defers := [] } w := ⟨v, hv, h⟩
theorem retMD {n : Nat} {P : Program} {fn : Func} {R : Ending → World → Prop} {tmps : Array Value} {w : World} {v : Value} {D : Nat} (hK : w.heap[D]? = some (.deferred (some []))) (hv : (results fn tmps).run P (w.putObj D (.deferred none)) = .ok v (w.putObj D (.deferred none))) (h : R (.returned v) (w.putObj D (.deferred none))) :
    bodyPostM Fence.wide n P fn R .ret { tmps := tmps, defers := [{ target := .collected D, args := #[] }] } w := ⟨by simp, .inl ⟨_, _, rfl, run_takeDeferred hK, v, hv, h⟩⟩
theorem kept_putObj (w : World) (D : Nat) (o : Obj) : Kept [D] w (w.putObj D o) :=
  (Kept.refl [D] w).grown (grownBy_putObj' w D o) (fun k hk => by injection hk with hk; exact Or.inl (by simp [hk]))

theorem kept_below {B : Nat} {w w2 W : World} (k : Kept [] w w2) (h : Below B w2 W) (hB : w.heap.size ≤ B) : Kept [] w W :=
  ⟨h.os.trans k.os, h.tape.trans k.tape, h.output.trans k.output, Nat.le_trans k.size h.size, fun j hj _ => (h.block j (by omega)).trans (k.block j hj (by simp))⟩
theorem rowpos_shape {W : World} {base : Nat} {e : TypeId} {size : Nat} {v : Value} {k : Nat} {xs : List Value} (h : W.ownsRow base e size v k xs) (hk : 0 < k) : ∃ g cap, v = .slice (some ⟨g, 0, none⟩) k cap := by
  rcases h.2 with ⟨_, h0⟩ | ⟨g, cap, _, rfl, _⟩
  · omega
  · exact ⟨g, cap, rfl⟩
theorem addr_add (g k : Nat) : (⟨g, 0, none⟩ : Addr).add k = ⟨g, k, none⟩ := by
  unfold Addr.add
  by_cases h : k = 0
  · subst h; rfl
  · simp [h]
theorem strCells_append (a b : List UInt8) : Lib.strCells (bs (a ++ b)) = Lib.strCells (bs a) ++ Lib.strCells (bs b) := by simp [Lib.strCells, bs]
theorem strCells_len (a : List UInt8) : (Lib.strCells (bs a)).length = a.length := by simp [Lib.strCells, bs]

/-- 'b = append(b, s...)' of a text, within a round. -/
theorem wpListIn_append_own_string {F : Fence} {n' : Nat} {P : Program} {ops : Array Oper} {rest : List Oper} {o : Oper} {a : Act} {Q : Exit → Act → World → Prop} (w : World) (hgd : o.guard = none) (sl x : Operand) (t u : TypeId)
    (ho : o.op = .call { callee := .builtin .append, args := #[sl, x], argTypes := #[t, u] })
    (base : Nat) (e : TypeId) (i : TypeInfo) (ht : P.underlying t = some (.slice e)) (hu : P.underlying u = some .string) (hi : P.info? e = some i) (hz : i.zero = some (.int .u8 0))
    (hsize : i.size = 1) (hby : i.bytes = 1)
    (v : Value) (n : Nat) (xs : List Value) (hs : a.eval sl = v) (hown : w.ownsRow base e 1 v n xs) (s : ByteArray) (hx : a.eval x = .string s)
    (h63 : n + s.size ≤ maxLen) (hbytes : n + s.size ≤ 140737488355328) (hbase : base ≤ w.heap.size)
    (h : ∀ v' w', w'.ownsRow base e 1 v' (n + s.size) (xs ++ Lib.strCells s) → w.grownBy w' v.ownBlock → (v' = .slice none 0 0 ↔ v = .slice none 0 0 ∧ s.size = 0) → wpListIn F n' P ops Q rest (a.put o.dst v') w') : wpListIn F n' P ops Q (o :: rest) a w := by
  refine wpListIn_plain hgd fun K hK => ?_
  obtain ⟨v', w', hr, h2, h3, h4⟩ := Lib.run_append_own_string (P := P) w base t u o.type e i ht hu hi hz hsize hby v n xs hown s h63 hbytes hbase
  unfold Oper.wpIn
  refine ⟨?_, ?_⟩
  · simp [Oper.about, ho, resolve, Target.leads, Sem.run_pure]
  · rw [Oper.semAt_plain F _ _ (by rw [ho]; intro c hc'; cases hc')]
    simp [execOp, ho, resolve, invoke, builtin, hs, hx, hr, Result.andThen]
    exact hK _ _ (h v' w' h2 h3 h4)
/-- as the kit's, with no block laid ahead of the append. -/
theorem Boxed.appended0 {W w1 : World} {n₀ B : Nat} {t e : TypeId} {size : Nat} {v v' : Value} {k m : Nat} {xs ys : List Value}
    (hv : Boxed W B t v) (hte : t ≠ e) (hrow : W.ownsRow n₀ e size v k xs) (hn₀ : n₀ ≤ W.heap.size) (hB : n₀ ≤ B)
    (hown' : w1.ownsRow n₀ e size v' m ys) (hgrow : W.grownBy w1 v.ownBlock) :
    Boxed w1 B t v ∧ Boxed (w1.setCell ⟨B, 0, none⟩ v') B t v' ∧ (w1.setCell ⟨B, 0, none⟩ v').ownsRow n₀ e size v' m ys ∧ KeepsOthers W (w1.setCell ⟨B, 0, none⟩ v') ∧ Below n₀ W (w1.setCell ⟨B, 0, none⟩ v') := by
  have hv1 : Boxed w1 B t v := hv.kept hgrow (hv.not_row hte hrow)
  refine ⟨hv1, hv1.set v', hown'.kept (grownBy_setCell' w1 B v') (.inr (hv1.not_row hte hown').symm), ?_, ?_⟩
  · refine (KeepsOthers.of_grownBy hgrow fun j o ej hj => ?_).trans (KeepsOthers.setCell _ _ _)
    rcases hrow.2 with ⟨rfl, _⟩ | ⟨g, cap, cur, rfl, _, hgb, _⟩
    · simp [Value.ownBlock] at ej
    · obtain rfl : g = j := by simpa [Value.ownBlock] using ej
      rw [hgb] at hj; cases hj; rfl
  · refine ((Below.refl n₀ W).grown hgrow hn₀ fun j ej => ?_).setCell (p := ⟨B, 0, none⟩) hB v'
    rcases hrow.2 with ⟨rfl, _⟩ | ⟨g, cap, cur, rfl, hb, _, _⟩
    · simp [Value.ownBlock] at ej
    · obtain rfl : g = j := by simpa [Value.ownBlock] using ej
      exact hb
theorem kpr_append0 {W w1 : World} {n₀ B base size k : Nat} {t e : TypeId} {v v' : Value} {xs : List Value} (hv : Boxed W B t v) (ht : t ≠ 66) (hrow : W.ownsRow base e size v k xs) (he : e ≠ 66)
    (hgrow : W.grownBy w1 v.ownBlock) (hb : Below n₀ W (w1.setCell ⟨B, 0, none⟩ v')) : KpR n₀ W (w1.setCell ⟨B, 0, none⟩ v') := by
  refine ⟨hb, fun i cs f hk => ?_⟩
  have hlt : i < W.heap.size := (Array.getElem?_eq_some_iff.1 hk).1
  have h1 : i ≠ B := fun e' => by
    subst e'
    rw [show W.heap[i]? = _ from hv] at hk
    injection hk with hk
    injection hk with _ ht'
    exact ht ht'
  have h2 : some i ≠ v.ownBlock := by
    rcases hrow.2 with ⟨rfl, _⟩ | ⟨g, cap, cur, rfl, _, hgb, _⟩
    · simp [Value.ownBlock]
    · intro e'
      obtain rfl : i = g := by simpa [Value.ownBlock] using e'
      rw [hgb] at hk
      injection hk with hk
      injection hk with _ he'
      exact he he'
  exact (Below.heap_setCell _ _ _ _ h1).trans ((hgrow.block i hlt h2).trans hk)
end Go.Proofs.Ytdnbddhjdokbfaa

/- Layer 12 (blob): what a write to a disk leaves: all blocks behind a bound, but the waiting writes' own. -/
namespace Go.Proofs.Ytdnbddhjdokbfaa
open Go.RowKit
set_option linter.unusedVariables false
set_option linter.unusedSimpArgs false

/-- all blocks from lim on stand, but cells of waiting writes. -/
def AsideW (lim : Nat) (w w' : World) : Prop :=
  w.heap.size ≤ w'.heap.size ∧ ∀ g o, lim ≤ g → w.heap[g]? = some o → (∀ cs f, o ≠ .cells cs 97 f) → w'.heap[g]? = some o
theorem AsideW.refl (lim : Nat) (w : World) : AsideW lim w w := ⟨Nat.le_refl _, fun _ _ _ h _ => h⟩
theorem AsideW.trans {lim : Nat} {a b c : World} (h : AsideW lim a b) (k : AsideW lim b c) : AsideW lim a c :=
  ⟨Nat.le_trans h.1 k.1, fun g o hg ho ht => k.2 g o hg (h.2 g o hg ho ht) ht⟩
theorem AsideW.mono {lim lim' : Nat} {a b : World} (h : AsideW lim a b) (hl : lim ≤ lim') : AsideW lim' a b := ⟨h.1, fun g o hg ho ht => h.2 g o (by omega) ho ht⟩
theorem Kept.asideW {w w' : World} (k : Kept [] w w') (lim : Nat) : AsideW lim w w' := ⟨k.size, fun g o _ ho _ => by
  rw [k.block g (Array.getElem?_eq_some_iff.1 ho).1 (by simp)]; exact ho⟩
theorem BKept.asideW {b sb mb lo r lim : Nat} {w w' : World} (k : BKept b sb mb lo r w w') (h1 : b < lim) (h2 : sb < lim) (h3 : mb < lim) (h4 : r < lim) : AsideW lim w w' :=
  ⟨k.2.2.2.1, fun g o hg ho ht => by
    have hlt := (Array.getElem?_eq_some_iff.1 ho).1
    rw [k.2.2.2.2 g hlt (by omega) (by omega) (by omega) (by omega) (Or.inr (fun cs f hc => by
      rw [ho] at hc
      injection hc with hc
      exact ht cs f hc))]
    exact ho⟩
theorem AsideW.own {lim : Nat} {w w' : World} {g : Nat} {cs : Array Value} {t : TypeId} (k : AsideW lim w w') (o : Own w g cs t) (hg : lim ≤ g) (ht : t ≠ 97) : Own w' g cs t :=
  k.2 g _ hg o (fun cs' f e => by injection e with _ e; exact ht e)
theorem AsideW.row {lim : Nat} {w w' : World} {base : Nat} {e : TypeId} {size : Nat} {v : Value} {n : Nat} {xs : List Value} (k : AsideW lim w w') (h : w.ownsRow base e size v n xs) (hb : lim ≤ base) (ht : e ≠ 97) : w'.ownsRow base e size v n xs :=
  ownsRow_same h (fun g cs hg hc => by
    have := k.2 g _ (by omega) hc (fun cs' f e' => by injection e' with _ e'; exact ht e')
    rw [this, hc])
theorem AsideW.obj {lim : Nat} {w w' : World} {D : Nat} {o : Obj} (k : AsideW lim w w') (h : w.heap[D]? = some o) (hD : lim ≤ D) (ho : ∀ cs t f, o ≠ .cells cs t f) : w'.heap[D]? = some o :=
  k.2 D o hD h (fun cs f => ho cs _ f)

/-- a block that is no cells and no map is turned: a disk stands. -/
theorem DiskAt.putD {w w' : World} {D b sb mb dlo : Nat} {x : Option (List Deferred)} {e : DK} (hD : DiskAt w b sb mb dlo e) (ho : w.heap[D]? = some (.deferred x)) (k : Kept [D] w w') : DiskAt w' b sb mb dlo e := by
  obtain ⟨wv2, n, ob, os, hw, hm, hn, g2, g3, g4, g5, g6, g7⟩ := hD
  have ne : ∀ g cs t, w.heap[g]? = some (.cells cs t (0, 0)) → g ∉ [D] := by
    intro g cs t hc hx
    have hx : g = D := by simpa using hx
    subst hx
    rw [ho] at hc
    cases hc
  refine ⟨wv2, n, k.own ob (ne b _ _ ob), k.own os (ne sb _ _ os), ownsRow_keptT hw k (fun g hg _ cs hc => ne g _ _ hc hg), hm.kept k ?_, hn, g2, g3, g4, g5, Nat.le_trans g6 k.size, g7⟩
  intro hx
  have hx : mb = D := by simpa using hx
  subst hx
  obtain ⟨D, ⟨es, clock, hh, _⟩, _⟩ := hm
  rw [hh] at ho
  cases ho
theorem RAt.putD {w w' : World} {D r lo : Nat} {x : Option (List Deferred)} {d : DK} (h : RAt w r lo d) (ho : w.heap[D]? = some (.deferred x)) (k : Kept [D] w w') : RAt w' r lo d := by
  obtain ⟨sv, wv, o, hsr, hwr, h1, h2, r3⟩ := h
  have ne : ∀ g cs t, w.heap[g]? = some (.cells cs t (0, 0)) → g ∉ [D] := by
    intro g cs t hc hx
    have hx : g = D := by simpa using hx
    subst hx
    rw [ho] at hc
    cases hc
  exact ⟨sv, wv, k.own o (ne r _ _ o), ownsRow_keptT hsr k (fun g hg _ cs hc => ne g _ _ hc hg), ownsRow_keptT hwr k (fun g hg _ cs hc => ne g _ _ hc hg), Nat.le_trans h1 k.size, h2, r3⟩
theorem Alone.putD {W0 w w' : World} {b sb mb lo D lim : Nat} {x : Option (List Deferred)} {d : DK} (h : Alone W0 w b sb mb lo d) (hb : b < lim) (ho : w.heap[D]? = some (.deferred x)) (k : Kept [D] w w') (hl : lim ≤ D) : Alone W0 w' b sb mb lo d :=
  ⟨h.disk.putD ho k, h.kept.call k (fun y hy => Or.inr (by have hy : y = D := by simpa using hy
                                                           have := h.hb; omega)), h.hb, h.hsb, h.hmb, h.hlo, h.fit⟩
theorem Both.putD {W0 w w' : World} {b sb mb lo r rlo D lim : Nat} {x : Option (List Deferred)} {d rd : DK} (h : Both W0 w b sb mb lo r rlo d rd) (hb : b < lim) (ho : w.heap[D]? = some (.deferred x)) (k : Kept [D] w w') (hl : lim ≤ D) : Both W0 w' b sb mb lo r rlo d rd :=
  ⟨h.alone.putD hb ho k hl, h.ref.putD ho k, h.hr, h.hsr, h.rfit⟩

/-- whatever holds a disk at b, and what a write leaves. -/
structure BOps (Inv : DK → World → Prop) (b lim : Nat) : Prop where
  ops : DOps Inv b
  writeB : ∀ {d w} (i : Int) (s : List UInt8), Inv d w → d.ops < 100000 → d.waits.length ≤ 10000 → Calls Try.prog 38 #[.pointer (some ⟨b, 0, none⟩), .int .i64 i, .string (bs s)] w fun e w' => e = .returned (.int .i64 (wCode d i s)) ∧ Inv (wNext d i s) w' ∧ AsideW lim w w'
  putD : ∀ {d w w' D x}, Inv d w → w.heap[D]? = some (.deferred x) → Kept [D] w w' → lim ≤ D → Inv d w'
theorem bothB (W0 : World) (b sb mb lo r rlo lim : Nat) (rd : DK) (h1 : b < lim) (h2 : sb < lim) (h3 : mb < lim) (h4 : r < lim) : BOps (fun d w => Both W0 w b sb mb lo r rlo d rd) b lim :=
  ⟨bothOps W0 b sb mb lo r rlo rd, fun i s h ho hw => (h.dWrite i s ho hw).mono fun e w' hh => ⟨hh.1, hh.2.1, hh.2.2.asideW h1 h2 h3 h4⟩, fun h ho k hl => h.putD h1 ho k hl⟩
theorem aloneB (W0 : World) (b sb mb lo lim : Nat) (h1 : b < lim) (h2 : sb < lim) (h3 : mb < lim) : BOps (fun d w => Alone W0 w b sb mb lo d) b lim :=
  ⟨aloneOps W0 b sb mb lo, fun i s h ho hw => (h.write i s ho hw).mono fun e w' hh => ⟨hh.1, hh.2.1, (hh.2.2.both b).asideW h1 h2 h3 h1⟩, fun h ho k hl => h.putD h1 ho k hl⟩
/-- whatever holds the document's disk at r, and what a write leaves. -/
structure QBOps (Inv : DK → World → Prop) (r lim : Nat) : Prop where
  ops : QOps Inv r
  stands : ∀ {d w}, Inv d w → ∃ p c, w.cell? ⟨r, 0, none⟩ = some (.slice p d.stand.length c)
  writeB : ∀ {d w} (i : Int) (s : List UInt8), Inv d w → d.ops < 100000 → d.waits.length < 20000 → Calls Try.prog 74 #[.pointer (some ⟨r, 0, none⟩), .int .i64 i, .string (bs s)] w fun e w' => e = .returned (.int .i64 (wCode d i s)) ∧ Inv (wNext d i s) w' ∧ AsideW lim w w'
theorem bothQB (W0 : World) (b sb mb lo r rlo lim : Nat) (d : DK) (h1 : b < lim) (h2 : sb < lim) (h3 : mb < lim) (h4 : r < lim) : QBOps (fun rd w => Both W0 w b sb mb lo r rlo d rd) r lim :=
  ⟨bothQ W0 b sb mb lo r rlo d, fun h => by obtain ⟨p, c, p', c', h0, _⟩ := h.ref.five; exact ⟨p, c, h0⟩, fun i s h ho hw => (h.qWrite i s ho hw).mono fun e w' hh => ⟨hh.1, hh.2.1, hh.2.2.asideW h1 h2 h3 h4⟩⟩
/-- with whatever else stands aside of a write. -/
theorem BOps.with {Inv : DK → World → Prop} {b lim : Nat} (h : BOps Inv b lim) (G : World → Prop) (hG : ∀ w w', AsideW lim w w' → G w → G w') (hG2 : ∀ w w' D x, w.heap[D]? = some (.deferred x) → Kept [D] w w' → lim ≤ D → G w → G w') : BOps (fun d w => Inv d w ∧ G w) b lim where
  ops := {
    len := fun i => h.ops.len i.1
    fit := fun i => h.ops.fit i.1
    keep := fun i k => ⟨h.ops.keep i.1 k, hG _ _ (k.asideW lim) i.2⟩
    lenC := fun i => h.ops.lenC i.1
    downC := fun i => h.ops.downC i.1
    readC := fun n i => h.ops.readC n i.1
    writeC := fun n s i ho hw => (h.writeB n s i.1 ho hw).mono fun e w' hh => ⟨hh.1, hh.2.1, hG _ _ hh.2.2 i.2⟩ }
  writeB := fun n s i ho hw => (h.writeB n s i.1 ho hw).mono fun e w' hh => ⟨hh.1, ⟨hh.2.1, hG _ _ hh.2.2 i.2⟩, hh.2.2⟩
  putD := fun i ho k hl => ⟨h.putD i.1 ho k hl, hG2 _ _ _ _ ho k hl i.2⟩
theorem QBOps.with {Inv : DK → World → Prop} {r lim : Nat} (h : QBOps Inv r lim) (G : World → Prop) (hG : ∀ w w', AsideW lim w w' → G w → G w') : QBOps (fun d w => Inv d w ∧ G w) r lim where
  ops := {
    len := fun i => h.ops.len i.1
    fit := fun i => h.ops.fit i.1
    keep := fun i k => ⟨h.ops.keep i.1 k, hG _ _ (k.asideW lim) i.2⟩
    down := fun i => h.ops.down i.1
    readC := fun n i => h.ops.readC n i.1
    writeC := fun n s i ho hw => (h.writeB n s i.1 ho hw).mono fun e w' hh => ⟨hh.1, hh.2.1, hG _ _ hh.2.2 i.2⟩ }
  stands := fun i => h.stands i.1
  writeB := fun n s i ho hw => (h.writeB n s i.1 ho hw).mono fun e w' hh => ⟨hh.1, ⟨hh.2.1, hG _ _ hh.2.2 i.2⟩, hh.2.2⟩
end Go.Proofs.Ytdnbddhjdokbfaa
