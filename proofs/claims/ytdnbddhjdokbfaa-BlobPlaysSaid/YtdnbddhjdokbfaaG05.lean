/- A row of the call's own, appended to another of its own: whether the source is nil or not. -/
import Derived.Test.YtdnbddhjdokbfaaShelf2
import Derived.Test.YtdnbddhjdokbfaaShelf
import Derived.Test.YtdnbddhjdokbfaaG03
import Derived.Test.YtdnbddhjdokbfaaG04
import Derived.Laws.OwnMore
import Derived.Laws.AppendOwnNone
import Derived.Maps.AppendAt
import Derived.LoopN
namespace Go.Proofs.Ytdnbddhjdokbfaa
open Go.RowKit
set_option linter.unusedVariables false
set_option linter.unusedSimpArgs false

theorem grownBy_refl (w : World) (row : Option Nat) : w.grownBy w row := ⟨rfl, rfl, rfl, Nat.le_refl _, fun _ _ _ => rfl⟩
theorem wpList_append_rows {P : Program} {w : World} {ops : Array Oper} {rest : List Oper} {o : Oper} {a : Act} {Q : Exit → Act → World → Prop} (hgd : o.guard = none) (s x : Operand) (t : TypeId)
    (ho : o.op = .call { callee := .builtin .append, args := #[s, x], argTypes := #[t, t] })
    (base base2 : Nat) (e : TypeId) (i : TypeInfo) (z : Value) (size bytes : Nat) (ht : P.underlying t = some (.slice e)) (hi : P.info? e = some i) (hz : i.zero = some z)
    (hsize : i.size = size) (hby : i.bytes = bytes) (hzs : z.cells.size = size) (hsz : 0 < size)
    (v : Value) (n : Nat) (xs : List Value) (hs : a.eval s = v) (hown : w.ownsRow base e size v n xs)
    (u : Value) (m : Nat) (news : List Value) (hx : a.eval x = u) (hsrc : w.ownsRow base2 e size u m news) (h1 : ∀ u ∈ news, u.oneCell' = true)
    (h63 : n + m ≤ maxLen) (hbytes : (n + m) * bytes ≤ 140737488355328) (hbase : base ≤ w.heap.size)
    (h : ∀ v' w', w'.ownsRow base e size v' (n + m) (xs ++ news) → w.grownBy w' v.ownBlock → (v'.ownBlock = v.ownBlock ∨ v'.ownBlock = some w.heap.size) → wpList P ops Q rest (a.put o.dst v') w') :
    wpList P ops Q (o :: rest) a w := by
  have hsrc' := hsrc
  obtain ⟨hl, ⟨rfl, rfl⟩ | ⟨g, cap, cur, rfl, hb, hg, hnc, hcm, hcs, htake⟩⟩ := hsrc
  · have hn : news = [] := List.eq_nil_of_length_eq_zero (by rw [hl, Nat.zero_mul])
    refine wpList_append_own_none hgd s x t ho base e i size ht hi v n xs hs hown hx ?_
    exact h v w (by rw [hn, List.append_nil, Nat.add_zero]; exact hown) (grownBy_refl _ _) (Or.inl rfl)
  · refine wpList_append_own_at w hgd s x t ho base e i z size bytes ht hi hz hsize hby hzs hsz v n xs hs hown ⟨g, 0, none⟩ m cap news hx hl (fun j u hj => World.ownsRow.cells hsrc' (g := g) rfl j u hj) h1 h63 hbytes hbase ?_
    intro v' w' h2 h3 _ h5
    exact h v' w' h2 h3 h5
/-- a row stands wherever the blocks of its elements' type do. -/
theorem ownsRow_same {w w' : World} {base : Nat} {e : TypeId} {size : Nat} {v : Value} {n : Nat} {xs : List Value} (h : w.ownsRow base e size v n xs)
    (hk : ∀ g cs, base ≤ g → w.heap[g]? = some (.cells cs e (0, 0)) → w'.heap[g]? = w.heap[g]?) : w'.ownsRow base e size v n xs := by
  obtain ⟨h1, h2⟩ := h
  refine ⟨h1, ?_⟩
  rcases h2 with h2 | ⟨g, cap, cur, rfl, hg, hh, r⟩
  · exact Or.inl h2
  · exact Or.inr ⟨g, cap, cur, rfl, hg, (hk g cur hg hh).trans hh, r⟩
theorem ownsRow_keptT {S : List Nat} {w w' : World} {base : Nat} {e : TypeId} {size : Nat} {v : Value} {n : Nat} {xs : List Value} (h : w.ownsRow base e size v n xs) (k : Kept S w w')
    (hS : ∀ x ∈ S, base ≤ x → ∀ cs, w.heap[x]? ≠ some (.cells cs e (0, 0))) : w'.ownsRow base e size v n xs :=
  ownsRow_same h (fun g cs hb hg => k.block g (lt_of_block hg) (fun hx => hS g hx hb cs hg))
theorem ownsRow_keptO {r : Nat} {rs : Array Value} {t : TypeId} {w w' : World} {base : Nat} {e : TypeId} {size : Nat} {v : Value} {n : Nat} {xs : List Value} (h : w.ownsRow base e size v n xs) (k : Kept [r] w w') (o : Own w r rs t) (hne : e ≠ t) : w'.ownsRow base e size v n xs :=
  ownsRow_keptT h k (fun x hx _ cs hc => by
    have hx : x = r := by simpa using hx
    subst hx
    have o' : w.heap[x]? = some (.cells rs t (0, 0)) := o
    rw [o'] at hc
    injection hc with hc
    injection hc with _ ht
    exact hne ht.symm)
theorem ownsRow_empty (w : World) (base : Nat) (e : TypeId) (size : Nat) (hb : base ≤ w.heap.size) : (w.alloc (.cells #[] e)).ownsRow base e size (.slice (some ⟨w.heap.size, 0, none⟩) 0 0) 0 [] :=
  World.ownsRow_lit w #[] 0 hb (Nat.zero_le _) (by simp)
theorem ownsRow_base {w : World} {base base' : Nat} {e : TypeId} {size : Nat} {v : Value} {n : Nat} {xs : List Value} (h : w.ownsRow base e size v n xs) (hb : base' ≤ base) : w.ownsRow base' e size v n xs := by
  obtain ⟨h1, h2⟩ := h
  refine ⟨h1, ?_⟩
  rcases h2 with h2 | ⟨g, cap, cur, rfl, hg, r⟩
  · exact Or.inl h2
  · exact Or.inr ⟨g, cap, cur, rfl, Nat.le_trans hb hg, r⟩
theorem ownsRow_drew {w : World} {base : Nat} {e : TypeId} {size : Nat} {v : Value} {n : Nat} {xs : List Value} (h : w.ownsRow base e size v n xs) : w.drew.ownsRow base e size v n xs := h
/-- a row's cells, one by one. -/
theorem ownsRow_at {w : World} {base : Nat} {e : TypeId} {size : Nat} {v : Value} {n : Nat} {xs : List Value} (h : w.ownsRow base e size v n xs) (hn : 0 < n) :
    ∃ g c, v = .slice (some ⟨g, 0, none⟩) n c ∧ base ≤ g ∧ g < w.heap.size ∧ n ≤ c ∧ c ≤ maxLen ∧ ∀ j u, xs[j]? = some u → w.cell? ⟨g, j, none⟩ = some u := by
  have h' := h
  obtain ⟨hl, ⟨rfl, rfl⟩ | ⟨g, cap, cur, rfl, hb, hg, hnc, hcm, hcs, htake⟩⟩ := h
  · omega
  · refine ⟨g, cap, rfl, hb, lt_of_block hg, hnc, hcm, fun j u hj => ?_⟩
    have := World.ownsRow.cells h' (g := g) rfl j u hj
    rwa [Go.WideShapes.add_plain, Nat.zero_add] at this
end Go.Proofs.Ytdnbddhjdokbfaa

/- Layer 10 (extent): runs sorted. -/
namespace Go.Proofs.Ytdnbddhjdokbfaa
open Go.RowKit Go.Sort Go.Shelf
set_option linter.unusedVariables false
set_option linter.unusedSimpArgs false

def encR (x : Int × Int) : List Value := [.int .i64 x.1, .int .i64 x.2]
theorem flat_enc (l : List (Int × Int)) : flatK encR 2 l.toArray = (rcells l).toArray := by
  apply Array.ext
  · rw [size_flatK, List.size_toArray, List.size_toArray, rcells_len]
  · intro t h1 h2
    have ht : t < l.length * 2 := by simpa using h1
    have h := get_flatK encR 2 l.toArray t (by simpa using ht)
    rw [getElem!_pos _ t h1] at h
    rw [h]
    have hi : t / 2 < l.length := by omega
    rw [getElem!_pos l.toArray (t / 2) (by simpa using hi)]
    obtain ⟨g1, g2⟩ := rcells_get l (t / 2) hi
    rcases Nat.mod_two_eq_zero_or_one t with hm | hm
    · have e : t / 2 * 2 = t := by omega
      rw [e] at g1
      rw [hm]
      have := (List.getElem?_eq_some_iff.1 g1).2
      simp only [List.getElem_toArray]
      rw [this]; rfl
    · have e : t / 2 * 2 + 1 = t := by omega
      rw [e] at g2
      rw [hm]
      have := (List.getElem?_eq_some_iff.1 g2).2
      simp only [List.getElem_toArray]
      rw [this]; rfl
theorem lt_cmpI (x y : Int × Int) : ltOf (fun x y : Int × Int => cmpI x.1 y.1) x y = decide (x.1 < y.1) := by
  unfold ltOf cmpI
  by_cases h1 : x.1 < y.1
  · simp [h1]
  · by_cases h2 : y.1 < x.1 <;> simp [h1, h2]
theorem swo_cmpI : SWO (ltOf fun x y : Int × Int => cmpI x.1 y.1) := {
  irrefl := fun x => by rw [lt_cmpI]; simp
  trans := fun x y z h1 h2 => by rw [lt_cmpI] at *; simp at *; omega
  ntrans := fun x y z h1 h2 => by rw [lt_cmpI] at *; simp at *; omega }
theorem xorder1 (x y : Int × Int) (W : World) : Calls Try.prog 84 #[.agg #[.int .i64 x.1, .int .i64 x.2], .agg #[.int .i64 y.1, .int .i64 y.2]] W fun e w' => e = .returned (.int .i64 (cmpI x.1 y.1)) ∧ ∃ q os', w' = grow (W.drewN q) os' := by
  have hcon := fun W' => xcmp x.1 y.1 W'
  generalize cmpI x.1 y.1 = r at hcon ⊢
  go_enter Try.func84, Try.ntmps84
  go_wp2_with (go_at_call 62; refine (hcon _).mono ?_; rintro e w' ⟨rfl, rfl⟩)
  go_ret
  exact ⟨rfl, 0, _, by rw [alloc_eq_grow, alloc_eq_grow, grow_grow]; rfl⟩
theorem xorder2 (x y : Int × Int) (W : World) : Calls Try.prog 61 #[.agg #[.int .i64 x.1, .int .i64 x.2], .agg #[.int .i64 y.1, .int .i64 y.2]] W fun e w' => e = .returned (.int .i64 (cmpI x.1 y.1)) ∧ ∃ q os', w' = grow (W.drewN q) os' := by
  have hcon := fun W' => xcmp x.1 y.1 W'
  generalize cmpI x.1 y.1 = r at hcon ⊢
  go_enter Try.func61, Try.ntmps61
  go_wp2_with (go_at_call 62; refine (hcon _).mono ?_; rintro e w' ⟨rfl, rfl⟩)
  go_ret
  exact ⟨rfl, 0, _, by rw [alloc_eq_grow, alloc_eq_grow, grow_grow]; rfl⟩
/-- a row of runs behind the sort: what it holds; all else stands. -/
theorem sort_row {w : World} {g cap base : Nat} {l : List (Int × Int)} (h : w.ownsRow base 66 2 (.slice (some ⟨g, 0, none⟩) l.length cap) l.length (rcells l)) (m : Nat) (d' : Array (Int × Int)) (os : Array Obj) (hd : d'.size = l.length) :
    (sortWorldK encR 2 w g 0 m d' os).ownsRow base 66 2 (.slice (some ⟨g, 0, none⟩) l.length cap) l.length (rcells d'.toList) ∧ Kept [g] w (sortWorldK encR 2 w g 0 m d' os) := by
  obtain ⟨hl, ⟨e, _⟩ | ⟨g', cap', cur, e, hb, hg, hnc, hcm, hcs, htake⟩⟩ := h
  · simp at e
  · injection e with e e2 e3
    injection e with e
    injection e with e _ _
    subst e e3
    have hlt := lt_of_block hg
    have hblock : (sortWorldK encR 2 w g 0 m d' os).heap[g]? = some (.cells (putCells id 0 (flatK encR 2 d') cur) 66 (0, 0)) := by
      unfold sortWorldK
      rw [heap_grow_old _ _ (by show g < (putRowK encR 2 (Go.Sort.ahead w m) g 0 d').heap.size; simp [putRowK, putRow, mapBlock, Go.Sort.ahead]; exact hlt)]
      simp [putRowK, putRow, mapBlock, Go.Sort.ahead, Array.getElem?_modify, hg, onCells]
    have hsz : (putCells id 0 (flatK encR 2 d') cur).size = cur.size := by simp [putCells]
    refine ⟨⟨by rw [rcells_len, ← hd]; simp, Or.inr ⟨g, cap, _, rfl, hb, hblock, hnc, hcm, by rw [hsz, hcs], ?_⟩⟩, ⟨rfl, rfl, rfl, ?_, fun k hk hS => ?_⟩⟩
    · have hf := flat_enc d'.toList
      rw [Array.toArray_toList] at hf
      rw [hf]
      apply List.ext_getElem?
      intro i
      by_cases hi : i < l.length * 2
      · rw [List.getElem?_take_of_lt hi]
        have hic : i < cur.size := by rw [hcs]; have := Nat.mul_le_mul_right 2 hnc; omega
        have hir : i < (rcells d'.toList).length := by rw [rcells_len]; simp [hd]; exact hi
        rw [Array.getElem?_toList, List.getElem?_eq_getElem hir]
        unfold putCells
        rw [Array.getElem?_mapIdx, Array.getElem?_eq_getElem hic]
        simp only [Option.map_some, List.size_toArray, Nat.zero_add, Nat.sub_zero, id]
        rw [if_pos ⟨Nat.zero_le _, hir⟩, getElem!_pos _ i (by simpa using hir)]
        simp
      · rw [List.getElem?_eq_none (by rw [List.length_take]; omega), List.getElem?_eq_none (by rw [rcells_len]; simp [hd]; omega)]
    · unfold sortWorldK
      simp [putRowK, putRow, mapBlock, Go.Sort.ahead]
    · have hne : g ≠ k := by simpa using fun e => hS (by simp [e])
      unfold sortWorldK
      rw [heap_grow_old _ _ (by show k < (putRowK encR 2 (Go.Sort.ahead w m) g 0 d').heap.size; simp [putRowK, putRow, mapBlock, Go.Sort.ahead]; exact hk)]
      simp [putRowK, putRow, mapBlock, Go.Sort.ahead, Array.getElem?_modify, hne]
/-- sorted by where runs are. -/
def Rising (l : List (Int × Int)) : Prop := List.Pairwise (fun a b => a.1 ≤ b.1) l
theorem rising_of {d : Array (Int × Int)} (h : SortedIn (ltOf fun x y : Int × Int => cmpI x.1 y.1) 0 d.size d) : Rising d.toList := by
  unfold Rising
  rw [List.pairwise_iff_getElem]
  intro i j hi hj hij
  have hi' : i < d.size := by simpa using hi
  have hj' : j < d.size := by simpa using hj
  have := h i j (Nat.zero_le _) hij hj'
  rw [lt_cmpI, getElem!_pos d i hi', getElem!_pos d j hj'] at this
  simp at this
  simpa using this
/-- what the sort gives. -/
def SortSays (base : Nat) (v : Value) (l : List (Int × Int)) (w : World) (e : Ending) (w' : World) : Prop :=
  e = .returned (.tuple #[]) ∧ ∃ l' : List (Int × Int), l'.Perm l ∧ Rising l' ∧ w'.ownsRow base 66 2 v l.length (rcells l') ∧ ∀ S, (∀ g, v.ownBlock = some g → g ∈ S) → Kept S w w'
theorem xsort_none (c : Nat) (p : Option Addr) (f : Nat) (w : World) : Calls Try.prog 91 #[.slice p 0 c, .int .i64 0, .int .i64 0, .func (.func f) #[] #[]] w fun e w' => e = .returned (.tuple #[]) ∧ w = w' := by
  go_enter Try.func91, Try.ntmps91
  go_wp2_with fail
  refine wp_loop_rounds 1 ?_
  rw [rounds_succ]
  go_wp2_with fail
  go_end0
  exact ⟨rfl, rfl⟩
theorem xpdq_none (c : Nat) (p : Option Addr) (lim : Int) (f : Nat) (w : World) : Calls Try.prog 80 #[.slice p 0 c, .int .i64 0, .int .i64 0, .int .i64 lim, .func (.func f) #[] #[]] w fun e w' => e = .returned (.tuple #[]) ∧ w = w' := by
  go_enter Try.func80, Try.ntmps80
  go_wp2_with fail
  refine wp_loop_rounds 1 ?_
  rw [rounds_succ]
  go_wp2_with (go_at_call 91; refine (xsort_none _ _ _ _).mono ?_; rintro e w' ⟨rfl, rfl⟩)
  (try simp only [Exit.inBlock, Exit.then]); refine bodyPost_ret (results_none rfl _ _ _) rfl ?_
  exact ⟨rfl, rfl⟩
theorem xsort (f base : Nat) (v : Value) (l : List (Int × Int)) (w : World) (h : w.ownsRow base 66 2 v l.length (rcells l)) (hl : l.length ≤ 1000000)
    (eg : ∀ args w, (callFunc f args).run Try.prog w = .ok (.enter f args) w)
    (hf : ∀ (x y : Int × Int) (W : World), Calls Try.prog f #[.agg #[.int .i64 x.1, .int .i64 x.2], .agg #[.int .i64 y.1, .int .i64 y.2]] W fun e w' => e = .returned (.int .i64 (cmpI x.1 y.1)) ∧ ∃ q os', w' = grow (W.drewN q) os') :
    Calls Try.prog 60 #[v, .func (.func f) #[] #[]] w (SortSays base v l w) := by
  by_cases h0 : l.length = 0
  · have hl0 : l = [] := List.eq_nil_of_length_eq_zero h0
    subst hl0
    have H := Lib.hid h
    obtain ⟨p, c, rfl⟩ := own_shape h
    clear h hf eg hl
    have hb := fun W => Try.bits_Len 0 W (by omega) (by omega)
    go_enter Try.func60, Try.ntmps60
    go_wp2_with (first
      | (go_at_call 81; refine (hb _).mono ?_; rintro e w' ⟨rfl, rfl⟩)
      | (go_at_call 80; refine (xpdq_none _ _ _ _ _).mono ?_; rintro e w' ⟨rfl, rfl⟩))
    go_end0
    exact ⟨rfl, [], List.Perm.refl _, List.Pairwise.nil, H.out, fun S _ => Kept.refl _ _⟩
  · obtain ⟨g, c, rfl, hb, hlt, hnc, hcm, hcell⟩ := ownsRow_at h (by omega)
    have hd : l.toArray.size = l.length := by simp
    have hH : HoldsK encR 2 w g 0 l.toArray := by
      intro j hj
      have hj2 : j < (rcells l).length := by rw [flat_enc] at hj; simpa using hj
      rw [flat_enc, Nat.zero_add]
      refine ⟨?_, World.ownsRow.frozenAt h j⟩
      rw [hcell j _ (List.getElem?_eq_getElem hj2), getElem!_pos _ j (by simpa using hj2)]
      simp
    have hcl : CmpLays Try.prog f #[] encR 2 (fun x y => cmpI x.1 y.1) g 0 l.toArray.size w := fun _ _ _ _ x y => hf x y _
    have hcon := AnyQ.slices_SortFunc Try.sortRun 2 Try.isAgg66 Try.sizeOf66 encR (fun _ => rfl) (fun x v hv => by simp [encR] at hv; rcases hv with rfl | rfl <;> rfl) (fun x y => cmpI x.1 y.1) swo_cmpI f #[] g 0 c l.toArray w eg hcl hH hlt (by rw [hd]; omega)
    rw [hd] at hcon
    refine hcon.mono fun e w' ⟨he, d', n, os, hp, hs, hw⟩ => ?_
    obtain ⟨hp1, _, hp3⟩ := hp
    have hds : d'.size = l.length := by rw [hp1, hd]
    obtain ⟨r1, r2⟩ := sort_row h n d' os hds
    rw [← hds] at hs
    have hperm : d'.toList.Perm l := by
      have e1 : (d'.extract 0 l.length).toList = d'.toList := by rw [← hds]; simp
      have e2 : (l.toArray.extract 0 l.length).toList = l := by simp
      rwa [e1, e2] at hp3
    subst hw
    exact ⟨he, d'.toList, hperm, rising_of hs, r1, fun S hS => r2.mono (fun x hx => by
      have hx : x = g := by simpa using hx
      subst hx; exact hS x (by simp [Value.ownBlock]))⟩
theorem xsort1 (base : Nat) (v : Value) (l : List (Int × Int)) (w : World) (h : w.ownsRow base 66 2 v l.length (rcells l)) (hl : l.length ≤ 1000000) :
    Calls Try.prog 60 #[v, .func (.func 84) #[] #[]] w (SortSays base v l w) :=
  xsort 84 base v l w h hl (enters_of Try.func84 (by kernel_rfl) rfl) xorder1
theorem xsort2 (base : Nat) (v : Value) (l : List (Int × Int)) (w : World) (h : w.ownsRow base 66 2 v l.length (rcells l)) (hl : l.length ≤ 1000000) :
    Calls Try.prog 60 #[v, .func (.func 61) #[] #[]] w (SortSays base v l w) :=
  xsort 61 base v l w h hl (enters_of Try.func61 (by kernel_rfl) rfl) xorder2
end Go.Proofs.Ytdnbddhjdokbfaa
