/- Layer 10 (extent): runs sorted. -/
import Derived.Test.YtakdnchmehmdhaaGreatShelf2
import Derived.Test.YtakdnchmehmdhaaGreatShelf
import Derived.Test.YtakdnchmehmdhaaGreatG01
import Derived.Test.YtakdnchmehmdhaaGreatG04
import Derived.Test.YtakdnchmehmdhaaGreatG06
import Derived.Test.YtakdnchmehmdhaaGreatG08
import Derived.LoopN
import Derived.Deep.RegionLaw
import Derived.Deep.QuietTactic
import Derived.BigQuiet
import Derived.Deep.CutBlock
import Derived.Deep.DeepCutAuto
import Derived.WalkMore
import Derived.ScopeJumps
import Derived.Outline
import Derived.Deep.SlicePairs
import Derived.ProofKit
import Derived.OpenShut
import Derived.Lib.AppendZerosOnto
import Derived.Lib.Walk
import Derived.Lib.SliceRun
import Derived.Deep.RegionHeld3
import Derived.Deep.RegionWith
import Derived.Deep.CutRange
namespace Go.Proofs.YtakdnchmehmdhaaGreat
open Go.RowKit Go.Sort Go.Shelf
set_option linter.unusedVariables false
set_option linter.unusedSimpArgs false

def encR (x : Int × Int) : List Value := [.int .i64 x.1, .int .i64 x.2]
theorem flat_enc (l : List (Int × Int)) : flatK encR 2 l.toArray = (rcells l).toArray := by
  apply Array.ext
  · rw [size_flatK, List.size_toArray, List.size_toArray, rcells_len]
  · intro t h1 h2
    have ht : t < l.length * 2 := by simpa using h1
    have h := get_flatK encR 2 l.toArray t (by simpa using ht)
    rw [getElem!_pos _ t h1] at h
    rw [h]
    have hi : t / 2 < l.length := by omega
    rw [getElem!_pos l.toArray (t / 2) (by simpa using hi)]
    obtain ⟨g1, g2⟩ := rcells_get l (t / 2) hi
    rcases Nat.mod_two_eq_zero_or_one t with hm | hm
    · have e : t / 2 * 2 = t := by omega
      rw [e] at g1
      rw [hm]
      have := (List.getElem?_eq_some_iff.1 g1).2
      simp only [List.getElem_toArray]
      rw [this]; rfl
    · have e : t / 2 * 2 + 1 = t := by omega
      rw [e] at g2
      rw [hm]
      have := (List.getElem?_eq_some_iff.1 g2).2
      simp only [List.getElem_toArray]
      rw [this]; rfl
theorem lt_cmpI (x y : Int × Int) : ltOf (fun x y : Int × Int => cmpI x.1 y.1) x y = decide (x.1 < y.1) := by
  unfold ltOf cmpI
  by_cases h1 : x.1 < y.1
  · simp [h1]
  · by_cases h2 : y.1 < x.1 <;> simp [h1, h2]
theorem swo_cmpI : SWO (ltOf fun x y : Int × Int => cmpI x.1 y.1) := {
  irrefl := fun x => by rw [lt_cmpI]; simp
  trans := fun x y z h1 h2 => by rw [lt_cmpI] at *; simp at *; omega
  ntrans := fun x y z h1 h2 => by rw [lt_cmpI] at *; simp at *; omega }
/-- a row of runs behind the sort: what it holds; all else stands. -/
theorem sort_row {w : World} {g cap base : Nat} {l : List (Int × Int)} (h : w.ownsRow base 48 2 (.slice (some ⟨g, 0, none⟩) l.length cap) l.length (rcells l)) (m : Nat) (d' : Array (Int × Int)) (os : Array Obj) (hd : d'.size = l.length) :
    (sortWorldK encR 2 w g 0 m d' os).ownsRow base 48 2 (.slice (some ⟨g, 0, none⟩) l.length cap) l.length (rcells d'.toList) ∧ Kept [g] w (sortWorldK encR 2 w g 0 m d' os) := by
  obtain ⟨hl, ⟨e, _⟩ | ⟨g', cap', cur, e, hb, hg, hnc, hcm, hcs, htake⟩⟩ := h
  · simp at e
  · injection e with e e2 e3
    injection e with e
    injection e with e _ _
    subst e e3
    have hlt := lt_of_block hg
    have hblock : (sortWorldK encR 2 w g 0 m d' os).heap[g]? = some (.cells (putCells id 0 (flatK encR 2 d') cur) 48 (0, 0)) := by
      unfold sortWorldK
      rw [heap_grow_old _ _ (by show g < (putRowK encR 2 (Go.Sort.ahead w m) g 0 d').heap.size; simp [putRowK, putRow, mapBlock, Go.Sort.ahead]; exact hlt)]
      simp [putRowK, putRow, mapBlock, Go.Sort.ahead, Array.getElem?_modify, hg, onCells]
    have hsz : (putCells id 0 (flatK encR 2 d') cur).size = cur.size := by simp [putCells]
    refine ⟨⟨by rw [rcells_len, ← hd]; simp, Or.inr ⟨g, cap, _, rfl, hb, hblock, hnc, hcm, by rw [hsz, hcs], ?_⟩⟩, ⟨rfl, rfl, rfl, ?_, fun k hk hS => ?_⟩⟩
    · have hf := flat_enc d'.toList
      rw [Array.toArray_toList] at hf
      rw [hf]
      apply List.ext_getElem?
      intro i
      by_cases hi : i < l.length * 2
      · rw [List.getElem?_take_of_lt hi]
        have hic : i < cur.size := by rw [hcs]; have := Nat.mul_le_mul_right 2 hnc; omega
        have hir : i < (rcells d'.toList).length := by rw [rcells_len]; simp [hd]; exact hi
        rw [Array.getElem?_toList, List.getElem?_eq_getElem hir]
        unfold putCells
        rw [Array.getElem?_mapIdx, Array.getElem?_eq_getElem hic]
        simp only [Option.map_some, List.size_toArray, Nat.zero_add, Nat.sub_zero, id]
        rw [if_pos ⟨Nat.zero_le _, hir⟩, getElem!_pos _ i (by simpa using hir)]
        simp
      · rw [List.getElem?_eq_none (by rw [List.length_take]; omega), List.getElem?_eq_none (by rw [rcells_len]; simp [hd]; omega)]
    · unfold sortWorldK
      simp [putRowK, putRow, mapBlock, Go.Sort.ahead]
    · have hne : g ≠ k := by simpa using fun e => hS (by simp [e])
      unfold sortWorldK
      rw [heap_grow_old _ _ (by show k < (putRowK encR 2 (Go.Sort.ahead w m) g 0 d').heap.size; simp [putRowK, putRow, mapBlock, Go.Sort.ahead]; exact hk)]
      simp [putRowK, putRow, mapBlock, Go.Sort.ahead, Array.getElem?_modify, hne]
/-- sorted by where runs are. -/
def Rising (l : List (Int × Int)) : Prop := List.Pairwise (fun a b => a.1 ≤ b.1) l
theorem rising_of {d : Array (Int × Int)} (h : SortedIn (ltOf fun x y : Int × Int => cmpI x.1 y.1) 0 d.size d) : Rising d.toList := by
  unfold Rising
  rw [List.pairwise_iff_getElem]
  intro i j hi hj hij
  have hi' : i < d.size := by simpa using hi
  have hj' : j < d.size := by simpa using hj
  have := h i j (Nat.zero_le _) hij hj'
  rw [lt_cmpI, getElem!_pos d i hi', getElem!_pos d j hj'] at this
  simp at this
  simpa using this
/-- what the sort gives. -/
def SortSays (base : Nat) (v : Value) (l : List (Int × Int)) (w : World) (e : Ending) (w' : World) : Prop :=
  e = .returned (.tuple #[]) ∧ ∃ l' : List (Int × Int), l'.Perm l ∧ Rising l' ∧ w'.ownsRow base 48 2 v l.length (rcells l') ∧ ∀ S, (∀ g, v.ownBlock = some g → g ∈ S) → Kept S w w'
theorem xsort_none (c : Nat) (p : Option Addr) (f : Nat) (w : World) : Calls Tryz.prog 129 #[.slice p 0 c, .int .i64 0, .int .i64 0, .func (.func f) #[] #[]] w fun e w' => e = .returned (.tuple #[]) ∧ w = w' := by
  go_enter Tryz.func129, Tryz.ntmps129
  go_wp2_with fail
  refine wp_loop_rounds 1 ?_
  rw [rounds_succ]
  go_wp2_with fail
  go_end0
  exact ⟨rfl, rfl⟩
theorem xpdq_none (c : Nat) (p : Option Addr) (lim : Int) (f : Nat) (w : World) : Calls Tryz.prog 104 #[.slice p 0 c, .int .i64 0, .int .i64 0, .int .i64 lim, .func (.func f) #[] #[]] w fun e w' => e = .returned (.tuple #[]) ∧ w = w' := by
  go_enter Tryz.func104, Tryz.ntmps104
  go_wp2_with fail
  refine wp_loop_rounds 1 ?_
  rw [rounds_succ]
  go_wp2_with (go_at_call 129; refine (xsort_none _ _ _ _).mono ?_; rintro e w' ⟨rfl, rfl⟩)
  (try simp only [Exit.inBlock, Exit.then]); refine bodyPost_ret (results_none rfl _ _ _) rfl ?_
  exact ⟨rfl, rfl⟩
theorem xsort (f base : Nat) (v : Value) (l : List (Int × Int)) (w : World) (h : w.ownsRow base 48 2 v l.length (rcells l)) (hl : l.length ≤ 1000000)
    (eg : ∀ args w, (callFunc f args).run Tryz.prog w = .ok (.enter f args) w)
    (hf : ∀ (x y : Int × Int) (W : World), Calls Tryz.prog f #[.agg #[.int .i64 x.1, .int .i64 x.2], .agg #[.int .i64 y.1, .int .i64 y.2]] W fun e w' => e = .returned (.int .i64 (cmpI x.1 y.1)) ∧ ∃ q os', w' = grow (W.drewN q) os') :
    Calls Tryz.prog 64 #[v, .func (.func f) #[] #[]] w (SortSays base v l w) := by
  by_cases h0 : l.length = 0
  · have hl0 : l = [] := List.eq_nil_of_length_eq_zero h0
    subst hl0
    have H := Lib.hid h
    obtain ⟨p, c, rfl⟩ := own_shape h
    clear h hf eg hl
    have hb := fun W => Tryz.bits_Len 0 W (by omega) (by omega)
    go_enter Tryz.func64, Tryz.ntmps64
    go_wp2_with (first
      | (go_at_call 105; refine (hb _).mono ?_; rintro e w' ⟨rfl, rfl⟩)
      | (go_at_call 104; refine (xpdq_none _ _ _ _ _).mono ?_; rintro e w' ⟨rfl, rfl⟩))
    go_end0
    exact ⟨rfl, [], List.Perm.refl _, List.Pairwise.nil, H.out, fun S _ => Kept.refl _ _⟩
  · obtain ⟨g, c, rfl, hb, hlt, hnc, hcm, hcell⟩ := ownsRow_at h (by omega)
    have hd : l.toArray.size = l.length := by simp
    have hH : HoldsK encR 2 w g 0 l.toArray := by
      intro j hj
      have hj2 : j < (rcells l).length := by rw [flat_enc] at hj; simpa using hj
      rw [flat_enc, Nat.zero_add]
      refine ⟨?_, World.ownsRow.frozenAt h j⟩
      rw [hcell j _ (List.getElem?_eq_getElem hj2), getElem!_pos _ j (by simpa using hj2)]
      simp
    have hcl : CmpLays Tryz.prog f #[] encR 2 (fun x y => cmpI x.1 y.1) g 0 l.toArray.size w := fun _ _ _ _ x y => hf x y _
    have hcon := AnyQ.slices_SortFunc Tryz.sortRun 2 Tryz.isAgg48 Tryz.sizeOf48 encR (fun _ => rfl) (fun x v hv => by simp [encR] at hv; rcases hv with rfl | rfl <;> rfl) (fun x y => cmpI x.1 y.1) swo_cmpI f #[] g 0 c l.toArray w eg hcl hH hlt (by rw [hd]; omega)
    rw [hd] at hcon
    refine hcon.mono fun e w' ⟨he, d', n, os, hp, hs, hw⟩ => ?_
    obtain ⟨hp1, _, hp3⟩ := hp
    have hds : d'.size = l.length := by rw [hp1, hd]
    obtain ⟨r1, r2⟩ := sort_row h n d' os hds
    rw [← hds] at hs
    have hperm : d'.toList.Perm l := by
      have e1 : (d'.extract 0 l.length).toList = d'.toList := by rw [← hds]; simp
      have e2 : (l.toArray.extract 0 l.length).toList = l := by simp
      rwa [e1, e2] at hp3
    subst hw
    exact ⟨he, d'.toList, hperm, rising_of hs, r1, fun S hS => r2.mono (fun x hx => by
      have hx : x = g := by simpa using hx
      subst hx; exact hS x (by simp [Value.ownBlock]))⟩
end Go.Proofs.YtakdnchmehmdhaaGreat

/- Walk of layer 10 (extent): the plain list. -/
namespace Go.Proofs.YtakdnchmehmdhaaGreat
open Go.RowKit
set_option linter.unusedVariables false
set_option linter.unusedSimpArgs false

/-- what a function that gives runs in new memory tells. -/
def GivesR (p : List (Int × Int)) (w : World) (e : Ending) (w' : World) : Prop :=
  ∃ v, e = .returned v ∧ w'.ownsRow w.heap.size 48 2 v p.length (rcells p) ∧ Kept [] w w'
theorem GivesR.runs {p : List (Int × Int)} {w w' : World} {e : Ending} (h : GivesR p w e w') : ∃ v, e = .returned v ∧ RunsIn w' v p w.heap.size w'.heap.size ∧ Kept [] w w' := by
  obtain ⟨v, h1, h2, h3⟩ := h; exact ⟨v, h1, RunsIn.of_own h2, h3⟩
theorem Pl.sum {a : Int} {l : List (Int × Int)} (h : Pl a l) (ha : a ≤ 8193) : 0 ≤ sumLen l ∧ sumLen l ≤ 8193 - a := by
  induction l generalizing a with
  | nil => simp [sumLen]; omega
  | cons r t ih =>
    obtain ⟨h1, h2, h3, h4⟩ := h
    have := ih h4 (by omega)
    have e : sumLen (r :: t) = r.2 + sumLen t := by simp [sumLen]
    rw [e]; omega
theorem Pl.take {a : Int} {l : List (Int × Int)} (h : Pl a l) (k : Nat) : Pl a (l.take k) := by
  induction k generalizing l a with
  | zero => trivial
  | succ k ih =>
    cases l with
    | nil => trivial
    | cons r t => obtain ⟨h1, h2, h3, h4⟩ := h; exact ⟨h1, h2, h3, ih h4⟩
theorem infoBool : ∃ i, Tryz.prog.info? 4 = some i ∧ i.zero = some (.bool false) ∧ i.size = 1 ∧ i.bytes = 1 := by
  have hi : (Tryz.prog.info? 4).map (fun i => (i.zero, i.size, i.bytes)) = some (some (.bool false), 1, 1) := by kernel_rfl
  obtain ⟨i0, hi0, hz0, hz1, hz2⟩ := info_parts hi
  exact ⟨i0, hi0, hz0, hz1, hz2⟩
/-- block g holds a row of truths. -/
def RowAt (w : World) (g : Nat) (f : Nat → Bool) : Prop := Rw w g 4 8192 (fun k => .bool (f k))
theorem RowAt.congr {w : World} {g : Nat} {f f' : Nat → Bool} (h : RowAt w g f) (e : ∀ m, m < 8192 → f m = f' m) : RowAt w g f' := Rw.congr h (fun i hi => by rw [e i hi])
/-- the lowest sectors of a list, so many. -/
def lowF (l : List (Int × Int)) (n : Int) (m : Nat) : Bool := hasB l m && decide ((cntF (hasB l) m : Int) < n)
def lowestL (l : List (Int × Int)) (n : Int) : List (Int × Int) := canon (lowF l n)
/-- which error; which list. -/
def lowCode (l : List (Int × Int)) (n : Int) : Int := if n < 0 then 1 else if (countL l : Int) < n ∨ 16 < (lowestL l n).length then 100 else 0
def lowRes (l : List (Int × Int)) (n : Int) : List (Int × Int) := if lowCode l n = 0 then lowestL l n else []
def LowSays (l : List (Int × Int)) (n : Int) (w : World) (e : Ending) (w' : World) : Prop :=
  ∃ v, e = .returned (.tuple #[v, .int .i64 (lowCode l n)]) ∧ w'.ownsRow w.heap.size 48 2 v (lowRes l n).length (rcells (lowRes l n)) ∧ Kept [] w w'
end Go.Proofs.YtakdnchmehmdhaaGreat

/- Layer 10 (extent): same lists; not more runs than are looked at; the page's examples; ExtentLowest's walk. -/
namespace Go.Proofs.YtakdnchmehmdhaaGreat
open Go.ChangeShapes Go.WideShapes Go.ChangeAt Go.RowKit Go.Deep
set_option linter.unusedVariables false
set_option linter.unusedSimpArgs false

theorem RunsIn.take {w : World} {p : Option Addr} {n c : Nat} {l : List (Int × Int)} {lo hi : Nat} (h : RunsIn w (.slice p n c) l lo hi) (k : Nat) (h0 : 0 < k) (hk : k ≤ l.length) : RunsIn w (.slice p k c) (l.take k) lo hi := by
  rcases h with ⟨rfl, _⟩ | ⟨b, off, c', e, h2, h3, h4, h5, h6, h7, h8⟩
  · simp at hk; omega
  · simp at e
    obtain ⟨rfl, rfl, rfl⟩ := e
    have hl : (l.take k).length = k := by rw [List.length_take]; omega
    refine Or.inr ⟨b, off, c, by rw [hl], fun i hi => ?_, h3, h4, h5, fun e => by rw [e] at hl; simp at hl; omega, by rw [hl]; omega, h8⟩
    rw [List.getElem_take]
    exact h2 i (by omega)
end Go.Proofs.YtakdnchmehmdhaaGreat

/- Layer 10 (extent): the page's examples; ExtentLowest's walk. -/
namespace Go.Proofs.YtakdnchmehmdhaaGreat
open Go.RowKit
set_option linter.unusedVariables false
set_option linter.unusedSimpArgs false

theorem LowSays.out {l : List (Int × Int)} {n : Int} {w w' : World} {e : Ending} (h : LowSays l n w e w') : ∃ v, e = .returned (.tuple #[v, .int .i64 (lowCode l n)]) ∧ RunsIn w' v (lowRes l n) w.heap.size w'.heap.size ∧ Kept [] w w' := by
  obtain ⟨v, h1, h2, h3⟩ := h
  exact ⟨v, h1, RunsIn.of_own h2, h3⟩
theorem run_append_none_any {P : Program} {w : World} (base : Nat) (t ty e : TypeId) (i : TypeInfo) (size : Nat) (ht : P.underlying t = some (.slice e)) (hi : P.info? e = some i)
    (v : Value) (n c : Nat) (xs : List Value) (hown : w.ownsRow base e size v n xs) :
    (Builtin.append_ #[t, t] ty #[v, .slice none 0 c]).run P w = .ok v w := by
  rcases hown.2 with ⟨rfl, rfl⟩ | ⟨g, cap, cur, rfl, _, _, hnc, _⟩
  · simp [Builtin.append_, run_underlying ht, sizeOf, typeInfo, hi, Builtin.lenOf, Builtin.firstCells]
  · simp [Builtin.append_, run_underlying ht, sizeOf, typeInfo, hi, Builtin.lenOf, Builtin.firstCells, hnc, storeCells]
theorem wpList_append_runs {w : World} {ops : Array Oper} {rest : List Oper} {o : Oper} {a : Act} {Q : Exit → Act → World → Prop} (hgd : o.guard = none) (s x : Operand)
    (ho : o.op = .call { callee := .builtin .append, args := #[s, x], argTypes := #[45, 45] })
    (base : Nat) (v : Value) (n : Nat) (xs : List Value) (hs : a.eval s = v) (hown : w.ownsRow base 48 2 v n xs)
    (u : Value) (l : List (Int × Int)) (lo hi : Nat) (hx : a.eval x = u) (hsrc : RunsIn w u l lo hi)
    (h63 : n + l.length ≤ maxLen) (hbytes : (n + l.length) * 16 ≤ 140737488355328) (hbase : base ≤ w.heap.size)
    (h : ∀ v' w', w'.ownsRow base 48 2 v' (n + l.length) (xs ++ rcells l) → w.grownBy w' v.ownBlock → wpList Tryz.prog ops Q rest (a.put o.dst v') w') :
    wpList Tryz.prog ops Q (o :: rest) a w := by
  obtain ⟨i0, q0, q1, q2, q3⟩ := infoRun
  obtain ⟨p, c, rfl⟩ := hsrc.shape
  cases p with
  | none =>
    have hl0 : l = [] := by
      rcases hsrc with ⟨h, _⟩ | ⟨b, off, c', e, _⟩
      · exact h
      · simp at e
    subst hl0
    refine wpList_plain hgd fun K hK => ?_
    have hrun := run_append_none_any (P := Tryz.prog) (w := w) base 45 o.type 48 i0 2 Tryz.underlying45 q0 v n c xs hown
    have hx' : a.eval x = .slice none 0 c := hx
    unfold Oper.wp
    simp [execOp, ho, resolve, invoke, builtin, hs, hx', hrun, Result.andThen]
    exact hK _ _ (h v w (by simpa [rcells] using hown) (grownBy_refl _ _))
  | some ad =>
    have hcell : ∀ j u, (rcells l)[j]? = some u → w.cell? (ad.add j) = some u := by
      rcases hsrc with ⟨rfl, _⟩ | ⟨b, off, c', e, h2⟩
      · intro j u hj; simp [rcells] at hj
      · simp at e
        obtain ⟨rfl, rfl⟩ := e
        have hh : RunsIn w (.slice (some ⟨b, off, none⟩) l.length c) l lo hi := Or.inr ⟨b, off, c, rfl, h2⟩
        intro j u hj
        rw [Go.WideShapes.add_plain]
        exact hh.cells j u hj
    refine wpList_append_own_at w hgd s x 45 ho base 48 i0 _ 2 16 Tryz.underlying45 q0 q1 q2 q3 rfl (by decide) v n xs hs hown ad l.length c (rcells l) hx (rcells_len l) hcell (rcells_one l) h63 hbytes hbase ?_
    intro v' w' h2 h3 _ _
    exact h v' w' h2 h3
theorem GivesR.out {p : List (Int × Int)} {w w' : World} {e : Ending} (h : GivesR p w e w') : ∃ v, e = .returned v ∧ RunsIn w' v p w.heap.size w'.heap.size ∧ Kept [] w w' := h.runs
def ApartX (a b : Int × Int) : Prop := a.1 + a.2 ≤ b.1 ∨ b.1 + b.2 ≤ a.1
theorem ApartX.symm {a b : Int × Int} (h : ApartX a b) : ApartX b a := Or.symm h
set_option maxRecDepth 100000 in
theorem pcloneR (v : Value) (l : List (Int × Int)) (lo hi : Nat) (w : World) (h : RunsIn w v l lo hi) (hl : l.length ≤ 1000000) :
    Calls Tryz.prog 91 #[v] w (GivesR l w) := by
  obtain ⟨i0, hi0, hz0, hz1, hz2⟩ := infoRun
  have q22 : ∀ (w : World) (a : Option Addr) (n c n' c' : Nat), (binOp .eql 45 (.slice a n c) (.slice none n' c')).run Tryz.prog w = .ok (.bool a.isNone) w := fun w a n c n' c' => Lib.run_eql_slice_nil w _ _ a n c n' c' Tryz.underlying45
  obtain ⟨p, c, rfl⟩ := h.shape
  unfold GivesR
  cases p with
  | none =>
    have hl0 : l = [] := by
      rcases h with ⟨h, _⟩ | ⟨b, off, c', e, _⟩
      · exact h
      · simp at e
    subst hl0
    go_enter Tryz.func91, Tryz.ntmps91
    go_wp2_with fail
    go_ret
    exact ⟨_, rfl, World.ownsRow_nil _ _ _ _, Kept.refl _ _⟩
  | some ad =>
    have hcell : ∀ j u, (rcells l)[j]? = some u → w.cell? (ad.add j) = some u := by
      rcases h with ⟨rfl, _⟩ | ⟨b, off, c', e, h2⟩
      · intro j u hj; simp [rcells] at hj
      · simp at e
        obtain ⟨rfl, rfl⟩ := e
        have hh : RunsIn w (.slice (some ⟨b, off, none⟩) l.length c) l lo hi := Or.inr ⟨b, off, c, rfl, h2⟩
        intro j u hj
        rw [Go.WideShapes.add_plain]
        exact hh.cells j u hj
    have A := Lib.hid hcell
    clear hcell h
    have hr1 := rcells_len l
    have hr2 := rcells_one l
    have HR1 := Lib.hid hr1
    have HR2 := Lib.hid hr2
    clear hr1 hr2
    go_enter Tryz.func91, Tryz.ntmps91
    go_wp2_with (at_builtin; refine wpList_append_own _ rfl _ _ 45 rfl w.heap.size 48 i0 _ 2 16 Tryz.underlying45 hi0 hz0 hz1 hz2 rfl (by decide) _ _ _ rfl (World.ownsRow_made w #[] 0 (Nat.le_refl _) (Nat.zero_le _) (by simp)) ad l.length c (rcells l) rfl ?qc1 ?qc2 ?qc3 ?qc4 ?qc5 ?qc6 ?_)
    case qc1 => exact HR1.out
    case qc2 => intro j u hj; exact Lib.cell?_alloc_some _ (A.out j u hj)
    case qc3 => exact HR2.out
    case qc4 => unfold maxLen; omega
    case qc5 => omega
    case qc6 => simp
    intro v' w1 hown hgrow hnil
    have hro : w1.ownsRow w.heap.size 48 2 v' l.length (rcells l) := by simpa using hown
    have HRO := Lib.hid hro
    have hk1 : Kept [] w w1 := ((Kept.refl _ _).alloc _).grown hgrow (fun k hk => Or.inr (by simp [Value.ownBlock] at hk; omega))
    clear hown hgrow hnil hro
    go_wp2_with fail
    go_ret
    exact ⟨_, rfl, HRO.out, hk1⟩
/-- no list is beyond all measure. -/
def SmallL (l : List JItem) : Prop := l.length ≤ 1000000 ∧ ∀ a ∈ l, a.runs.length ≤ 1000000
def SmallC (c : JCat) : Prop := SmallL c.boxes ∧ SmallL c.mans ∧ SmallL c.names
/-- a catalog's value. -/
def CatIn (w : World) (v : Value) (c : JCat) : Prop := ∃ vb vm vn, v = .agg #[.int .u32 c.nextBox, .int .u32 c.nextMan, vb, vm, vn] ∧ ItemsIn w vb c.boxes ∧ ItemsIn w vm c.mans ∧ ItemsIn w vn c.names ∧ (Lit.int .u32 c.nextBox).wf = true ∧ (Lit.int .u32 c.nextMan).wf = true
theorem CatIn.kept0 {w w' : World} {v : Value} {c : JCat} (h : CatIn w v c) (k : Kept [] w w') : CatIn w' v c := by
  obtain ⟨vb, vm, vn, e, h1, h2, h3, h4⟩ := h
  exact ⟨vb, vm, vn, e, h1.kept0 k, h2.kept0 k, h3.kept0 k, h4⟩
theorem Own.k5 {w : World} {b : Nat} {x0 x1 x2 x3 x4 : Value} {t : TypeId} (h : Own w b #[x0, x1, x2, x3, x4] t) : w.cell? ⟨b, 0, none⟩ = some x0 ∧ w.cell? ⟨b, 1, none⟩ = some x1 ∧ w.cell? ⟨b, 2, none⟩ = some x2 ∧ w.cell? ⟨b, 3, none⟩ = some x3 ∧ w.cell? ⟨b, 4, none⟩ = some x4 :=
  ⟨h.cell 0 (by simp), h.cell 1 (by simp), h.cell 2 (by simp), h.cell 3 (by simp), h.cell 4 (by simp)⟩
def EqSays (q : Prop) (w : World) (e : Ending) (w' : World) : Prop := ∃ b, e = .returned (.bool b) ∧ (b = true ↔ q) ∧ Kept [] w w'
theorem eqSays_no {q : Prop} (h : ¬ q) {w w' : World} (k : Kept [] w w') : EqSays q w (.returned (.bool false)) w' := ⟨false, rfl, ⟨fun h' => (by cases h'), fun h' => absurd h' h⟩, k⟩
theorem eqSays_yes {q : Prop} (h : q) {w w' : World} (k : Kept [] w w') : EqSays q w (.returned (.bool true)) w' := ⟨true, rfl, ⟨fun _ => h, fun _ => rfl⟩, k⟩
theorem take_same {l m : List JItem} {k : Nat} (hl : k < l.length) (hm : k < m.length) (h : l.take k = m.take k) (he : l[k] = m[k]) : l.take (k + 1) = m.take (k + 1) := by
  rw [List.take_succ_eq_append_getElem hl, List.take_succ_eq_append_getElem hm, h, he]
set_option maxRecDepth 100000 in
set_option maxHeartbeats 4000000 in
theorem zequalFunc (va vb : Value) (l m : List JItem) (w : World) (h : ItemsIn w va l) (h' : ItemsIn w vb m) (hl : SmallL l) (hm : SmallL m) :
    Calls Tryz.prog 46 #[va, vb, .func (.func 47) #[] #[]] w (EqSays (l = m) w) := by
  obtain ⟨pa, ca, rfl⟩ := h.shape
  obtain ⟨pb, cb, rfl⟩ := h'.shape
  have H := Lib.hid h
  have H2 := Lib.hid h'
  have HL := Lib.hid hl
  have HM := Lib.hid hm
  have j1 : (l.length : Int) ≤ 1000000 := by have := hl.1; omega
  have j2 : (m.length : Int) ≤ 1000000 := by have := hm.1; omega
  have hsm := zsameItem
  have HSM := Lib.hid hsm
  clear h h' hl hm hsm
  by_cases hne : l.length = m.length
  · have hne3 : Hid (l.length = m.length) := Lib.hid hne
    rw [← hne]
    clear hne j2
    go_enter Tryz.func46, Tryz.ntmps46
    go_wp2_with fail
    go_loopw [17] (fun i wr => ∃ k : Nat, k ≤ l.length ∧ i = .int .i64 k ∧ l.take k = m.take k ∧ Kept [] w wr) (fun i _ => l.length - (intOf i).toNat)
    case atStart => exact ⟨0, Nat.zero_le _, rfl, rfl, Kept.refl _ _⟩
    case round =>
      obtain ⟨k, hk, rfl, htk, hK⟩ := hrel
      by_cases hlt : k < l.length
      · have hlt2 : k < m.length := by have := hne3.out; omega
        obtain ⟨b, off, kva, rfl, hia, hb, hc1, hc2, HA⟩ := H.out.at4 k hlt
        obtain ⟨b', off', kvb, rfl, hib, hb', hc1', hc2', HB⟩ := H2.out.at4 k hlt2
        have hsame := fun W (q : Kept [] w W) => HSM.out (l[k]'hlt) (m[k]'hlt2) kva kvb W (hia.kept0 q) (hib.kept0 q) (HL.out.2 _ (List.getElem_mem hlt)) (HM.out.2 _ (List.getElem_mem hlt2))
        obtain ⟨p1, n1, c1, rfl⟩ := hia.slv
        obtain ⟨p2, n2, c2, rfl⟩ := hib.slv
        obtain ⟨x0, x1, x2, x3⟩ := HA wr hK
        obtain ⟨y0, y1, y2, y3⟩ := HB wr hK
        have bw : b < wr.heap.size := Nat.lt_of_lt_of_le hb hK.size
        have bw' : b' < wr.heap.size := Nat.lt_of_lt_of_le hb' hK.size
        obtain ⟨S, hS⟩ : ∃ S, JItem.same (l[k]'hlt) (m[k]'hlt2) = S := ⟨_, rfl⟩
        have hSe : S = true ↔ l[k]'hlt = m[k]'hlt2 := by rw [← hS]; exact JItem.same_iff
        simp only [hS] at hsame
        have i1 : (k : Int) < l.length := by omega
        unfold JItem.cells at hsame
        have HSA := Lib.hid hsame
        have HSE := Lib.hid hSe
        have HTK := Lib.hid htk
        have HKK := Lib.hid hK
        have hka : Kept [] w ((wr.alloc (.cells #[.int .u32 (l[k]'hlt).id, .string (bs (l[k]'hlt).name), .int .i64 (l[k]'hlt).size, .slice p1 n1 c1] 58)).alloc (.cells #[.int .u32 (m[k]'hlt2).id, .string (bs (m[k]'hlt2).name), .int .i64 (m[k]'hlt2).size, .slice p2 n2 c2] 58)) := (hK.alloc _).alloc _
        have HKA := Lib.hid hka
        clear hia hib hsame hS hSe htk hK hka HA HB hb hb'
        generalize hLA : l[k]'hlt = A at *
        generalize hLB : m[k]'hlt2 = B at *
        have HLA := Lib.hid hLA
        have HLB := Lib.hid hLB
        have HLT := Lib.hid (And.intro hlt hlt2)
        clear hLA hLB
        go_wp2_with fail
        refine (HSA.out _ HKA.out).mono ?_; rintro e w2 ⟨rfl, k2⟩
        have KK := Lib.hid (HKA.out.trans k2)
        cases S with
        | true =>
          go_wp2_with fail
          go_roundw
          case rel => exact ⟨k + 1, HLT.out.1, by go_num, take_same HLT.out.1 HLT.out.2 HTK.out (by rw [HLA.out, HLB.out]; exact HSE.out.1 (by simp)), KK.out⟩
          case measure => (have h := HLT.out.1; simp [intOf]; omega)
        | false =>
          go_wp2_with fail
          go_ret
          exact eqSays_no (fun e => by subst e; have h1 := HLA.out; have h2 := HLB.out; rw [h1] at h2; have := HSE.out.2 h2; cases this) KK.out
      · obtain rfl : k = l.length := by omega
        have he : l = m := by
          rw [List.take_length, hne3.out, List.take_length] at htk
          exact htk
        have HE := Lib.hid he
        clear htk he
        go_wp2_with fail
        go_ret
        exact eqSays_yes HE.out hK
  · have hne2 : ¬ (l.length : Int) = m.length := by omega
    have HNE := Lib.hid hne
    clear hne
    go_enter Tryz.func46, Tryz.ntmps46
    go_wp2_with fail
    go_ret
    exact eqSays_no (fun e => HNE.out (by rw [e])) (Kept.refl _ _)
set_option maxRecDepth 100000 in
theorem zsame1 (va vb : Value) (l m : List JItem) (w : World) (h : ItemsIn w va l) (h' : ItemsIn w vb m) (hl : SmallL l) (hm : SmallL m) :
    Calls Tryz.prog 45 #[va, vb] w (EqSays (l = m) w) := by
  have he := zequalFunc va vb l m w h h' hl hm
  obtain ⟨pa, ca, rfl⟩ := h.shape
  obtain ⟨pb, cb, rfl⟩ := h'.shape
  unfold EqSays at he ⊢
  have HE := Lib.hid he
  clear he h h' hl hm
  go_enter Tryz.func45, Tryz.ntmps45
  go_wp2_with fail
  refine HE.out.mono ?_; rintro e w2 ⟨b, rfl, hb, k2⟩
  have HB := Lib.hid hb
  clear hb
  go_wp2_with fail
  go_ret
  exact ⟨b, rfl, HB.out, k2⟩
theorem JCat.six (a b : JCat) : ((a.nextBox == b.nextBox) = false ∧ a ≠ b) ∨ ((a.nextBox == b.nextBox) = true ∧ (a.nextMan == b.nextMan) = false ∧ a ≠ b) ∨ ((a.nextBox == b.nextBox) = true ∧ (a.nextMan == b.nextMan) = true ∧ (a = b ↔ a.boxes = b.boxes ∧ a.mans = b.mans ∧ a.names = b.names)) := by
  obtain ⟨a1, a2, a3, a4, a5⟩ := a
  obtain ⟨b1, b2, b3, b4, b5⟩ := b
  by_cases h1 : a1 = b1
  · by_cases h2 : a2 = b2
    · exact Or.inr (Or.inr ⟨by simpa using h1, by simpa using h2, by simp [h1, h2]⟩)
    · exact Or.inr (Or.inl ⟨by simpa using h1, by simpa using h2, by simp [h2]⟩)
  · exact Or.inl ⟨by simpa using h1, by simp [h1]⟩
set_option maxRecDepth 100000 in
set_option maxHeartbeats 4000000 in
theorem zsame (va vb : Value) (a b : JCat) (w : World) (h : CatIn w va a) (h' : CatIn w vb b) (hl : SmallC a) (hm : SmallC b) :
    Calls Tryz.prog 14 #[va, vb] w (EqSays (a = b) w) := by
  have hc := JCat.six a b
  obtain ⟨b1, m1, n1, rfl, hb1, hm1, hn1, _⟩ := h
  obtain ⟨b2, m2, n2, rfl, hb2, hm2, hn2, _⟩ := h'
  have HB : Hid (∀ W, Kept [] w W → Calls Tryz.prog 45 #[b1, b2] W (EqSays (a.boxes = b.boxes) W)) := Lib.hid (fun W q => zsame1 _ _ _ _ W (hb1.kept0 q) (hb2.kept0 q) hl.1 hm.1)
  have HM : Hid (∀ W, Kept [] w W → Calls Tryz.prog 45 #[m1, m2] W (EqSays (a.mans = b.mans) W)) := Lib.hid (fun W q => zsame1 _ _ _ _ W (hm1.kept0 q) (hm2.kept0 q) hl.2.1 hm.2.1)
  have HN : Hid (∀ W, Kept [] w W → Calls Tryz.prog 45 #[n1, n2] W (EqSays (a.names = b.names) W)) := Lib.hid (fun W q => zsame1 _ _ _ _ W (hn1.kept0 q) (hn2.kept0 q) hl.2.2 hm.2.2)
  obtain ⟨p1, c1, rfl⟩ := hb1.shape
  obtain ⟨p2, c2, rfl⟩ := hm1.shape
  obtain ⟨p3, c3, rfl⟩ := hn1.shape
  obtain ⟨q1, d1, rfl⟩ := hb2.shape
  obtain ⟨q2, d2, rfl⟩ := hm2.shape
  obtain ⟨q3, d3, rfl⟩ := hn2.shape
  unfold EqSays at HB HM HN
  clear hb1 hm1 hn1 hb2 hm2 hn2 hl hm
  obtain ⟨Q, hQ⟩ : ∃ Q : Prop, (a = b) = Q := ⟨_, rfl⟩
  obtain ⟨QB, hQB⟩ : ∃ Q : Prop, (a.boxes = b.boxes) = Q := ⟨_, rfl⟩
  obtain ⟨QM, hQM⟩ : ∃ Q : Prop, (a.mans = b.mans) = Q := ⟨_, rfl⟩
  obtain ⟨QN, hQN⟩ : ∃ Q : Prop, (a.names = b.names) = Q := ⟨_, rfl⟩
  have HQ0 : Hid (((a.nextBox == b.nextBox) = false ∧ ¬ Q) ∨ ((a.nextBox == b.nextBox) = true ∧ (a.nextMan == b.nextMan) = false ∧ ¬ Q) ∨ ((a.nextBox == b.nextBox) = true ∧ (a.nextMan == b.nextMan) = true ∧ (Q ↔ QB ∧ QM ∧ QN))) := by
    rw [← hQ, ← hQB, ← hQM, ← hQN]; exact hc
  rw [hQ]
  rw [hQB] at HB
  rw [hQM] at HM
  rw [hQN] at HN
  clear hc hQ hQB hQM hQN
  generalize a.nextBox = nb at *
  generalize a.nextMan = nm at *
  generalize b.nextBox = nb2 at *
  generalize b.nextMan = nm2 at *
  generalize a.boxes.length = l1 at *
  generalize a.mans.length = l2 at *
  generalize a.names.length = l3 at *
  generalize b.boxes.length = l4 at *
  generalize b.mans.length = l5 at *
  generalize b.names.length = l6 at *
  obtain ⟨oA, oB⟩ := own_two w #[.int .u32 nb, .int .u32 nm, .slice p1 l1 c1, .slice p2 l2 c2, .slice p3 l3 c3] #[.int .u32 nb2, .int .u32 nm2, .slice q1 l4 d1, .slice q2 l5 d2, .slice q3 l6 d3] 25 25
  have k0 := ((Kept.refl [] w).alloc (.cells #[.int .u32 nb, .int .u32 nm, .slice p1 l1 c1, .slice p2 l2 c2, .slice p3 l3 c3] 25)).alloc (.cells #[.int .u32 nb2, .int .u32 nm2, .slice q1 l4 d1, .slice q2 l5 d2, .slice q3 l6 d3] 25)
  have K0 := Lib.hid k0
  obtain ⟨x0, x1, x2, x3, x4⟩ := oA.k5
  obtain ⟨y0, y1, y2, y3, y4⟩ := oB.k5
  have OA := Lib.hid oA
  have OB := Lib.hid oB
  clear k0 oA oB
  rcases HQ0.out with ⟨h1, h2⟩ | ⟨h1, h3, h2⟩ | ⟨h1, h3, h2⟩
  · have HN2 := Lib.hid h2
    clear h2 HQ0
    go_enter Tryz.func14, Tryz.ntmps14
    go_wp2_with fail
    go_ret
    exact eqSays_no HN2.out K0.out
  · have HN2 := Lib.hid h2
    clear h2 HQ0
    go_enter Tryz.func14, Tryz.ntmps14
    go_wp2_with fail
    go_ret
    exact eqSays_no HN2.out K0.out
  · have HQ2 := Lib.hid h2
    clear h2 HQ0
    go_enter Tryz.func14, Tryz.ntmps14
    go_wp2_with fail
    refine (HB.out _ K0.out).mono ?_; rintro e w2 ⟨r1, rfl, e1, k2⟩
    have K2 := Lib.hid (K0.out.trans k2)
    have E1 := Lib.hid e1
    have oA2 := k2.own OA.out (by simp)
    have oB2 := k2.own OB.out (by simp)
    obtain ⟨x0, x1, x2, x3, x4⟩ := oA2.k5
    obtain ⟨y0, y1, y2, y3, y4⟩ := oB2.k5
    have OA2 := Lib.hid oA2
    have OB2 := Lib.hid oB2
    clear e1 oA2 oB2
    cases r1 with
    | false =>
      go_wp2_with fail
      go_ret
      exact eqSays_no (fun q => by have := E1.out.2 (HQ2.out.1 q).1; cases this) K2.out
    | true =>
      go_wp2_with fail
      refine (HM.out _ K2.out).mono ?_; rintro e w3 ⟨r2, rfl, e2, k3⟩
      have K3 := Lib.hid (K2.out.trans k3)
      have E2 := Lib.hid e2
      have oA3 := k3.own OA2.out (by simp)
      have oB3 := k3.own OB2.out (by simp)
      obtain ⟨x0, x1, x2, x3, x4⟩ := oA3.k5
      obtain ⟨y0, y1, y2, y3, y4⟩ := oB3.k5
      clear e2 oA3 oB3
      cases r2 with
      | false =>
        go_wp2_with fail
        go_ret
        exact eqSays_no (fun q => by have := E2.out.2 (HQ2.out.1 q).2.1; cases this) K3.out
      | true =>
        go_wp2_with fail
        refine (HN.out _ K3.out).mono ?_; rintro e w4 ⟨r3, rfl, e3, k4⟩
        have K4 := Lib.hid (K3.out.trans k4)
        have E3 := Lib.hid e3
        clear e3
        go_wp2_with fail
        go_ret
        exact ⟨r3, rfl, ⟨fun q => HQ2.out.2 ⟨E1.out.1 (by simp), E2.out.1 (by simp), E3.out.1 q⟩, fun q => E3.out.2 (HQ2.out.1 q).2.2⟩, K4.out⟩
end Go.Proofs.YtakdnchmehmdhaaGreat
