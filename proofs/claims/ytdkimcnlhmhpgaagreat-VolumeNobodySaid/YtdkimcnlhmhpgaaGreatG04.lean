/- -/
import Derived.Test.YtdkimcnlhmhpgaaGreatShelf2
import Derived.Test.YtdkimcnlhmhpgaaGreatShelf
import Derived.Test.YtdkimcnlhmhpgaaGreatG02
import Derived.Test.YtdkimcnlhmhpgaaGreatG03
import Derived.Laws.OwnMore
import Derived.Laws.AppendOwnNone
import Derived.Maps.AppendAt
import Derived.LoopN
set_option linter.unusedVariables false
set_option linter.unusedSimpArgs false
namespace Go.Proofs.YtdkimcnlhmhpgaaGreat
open Go.RowKit
theorem grownBy_refl (w : World) (row : Option Nat) : w.grownBy w row := ⟨rfl, rfl, rfl, Nat.le_refl _, fun _ _ _ => rfl⟩
theorem ownsRow_same {w w' : World} {base : Nat} {e : TypeId} {size : Nat} {v : Value} {n : Nat} {xs : List Value} (h : w.ownsRow base e size v n xs)
    (hk : ∀ g cs, base ≤ g → w.heap[g]? = some (.cells cs e (0, 0)) → w'.heap[g]? = w.heap[g]?) : w'.ownsRow base e size v n xs := by
  obtain ⟨h1, h2⟩ := h
  refine ⟨h1, ?_⟩
  rcases h2 with h2 | ⟨g, cap, cur, rfl, hg, hh, r⟩
  · exact Or.inl h2
  · exact Or.inr ⟨g, cap, cur, rfl, hg, (hk g cur hg hh).trans hh, r⟩
theorem ownsRow_keptT {S : List Nat} {w w' : World} {base : Nat} {e : TypeId} {size : Nat} {v : Value} {n : Nat} {xs : List Value} (h : w.ownsRow base e size v n xs) (k : Kept S w w')
    (hS : ∀ x ∈ S, base ≤ x → ∀ cs, w.heap[x]? ≠ some (.cells cs e (0, 0))) : w'.ownsRow base e size v n xs :=
  ownsRow_same h (fun g cs hb hg => k.block g (lt_of_block hg) (fun hx => hS g hx hb cs hg))
theorem ownsRow_keptO {r : Nat} {rs : Array Value} {t : TypeId} {w w' : World} {base : Nat} {e : TypeId} {size : Nat} {v : Value} {n : Nat} {xs : List Value} (h : w.ownsRow base e size v n xs) (k : Kept [r] w w') (o : Own w r rs t) (hne : e ≠ t) : w'.ownsRow base e size v n xs :=
  ownsRow_keptT h k (fun x hx _ cs hc => by
    have hx : x = r := by simpa using hx
    subst hx
    have o' : w.heap[x]? = some (.cells rs t (0, 0)) := o
    rw [o'] at hc
    injection hc with hc
    injection hc with _ ht
    exact hne ht.symm)
theorem ownsRow_base {w : World} {base base' : Nat} {e : TypeId} {size : Nat} {v : Value} {n : Nat} {xs : List Value} (h : w.ownsRow base e size v n xs) (hb : base' ≤ base) : w.ownsRow base' e size v n xs := by
  obtain ⟨h1, h2⟩ := h
  refine ⟨h1, ?_⟩
  rcases h2 with h2 | ⟨g, cap, cur, rfl, hg, r⟩
  · exact Or.inl h2
  · exact Or.inr ⟨g, cap, cur, rfl, Nat.le_trans hb hg, r⟩
theorem ownsRow_at {w : World} {base : Nat} {e : TypeId} {size : Nat} {v : Value} {n : Nat} {xs : List Value} (h : w.ownsRow base e size v n xs) (hn : 0 < n) :
    ∃ g c, v = .slice (some ⟨g, 0, none⟩) n c ∧ base ≤ g ∧ g < w.heap.size ∧ n ≤ c ∧ c ≤ maxLen ∧ ∀ j u, xs[j]? = some u → w.cell? ⟨g, j, none⟩ = some u := by
  have h' := h
  obtain ⟨hl, ⟨rfl, rfl⟩ | ⟨g, cap, cur, rfl, hb, hg, hnc, hcm, hcs, htake⟩⟩ := h
  · omega
  · refine ⟨g, cap, rfl, hb, lt_of_block hg, hnc, hcm, fun j u hj => ?_⟩
    have := World.ownsRow.cells h' (g := g) rfl j u hj
    rwa [Go.WideShapes.add_plain, Nat.zero_add] at this
end Go.Proofs.YtdkimcnlhmhpgaaGreat

/- -/
namespace Go.Proofs.YtdkimcnlhmhpgaaGreat
open Go.RowKit Go.Sort Go.Shelf
def encR (x : Int × Int) : List Value := [.int .i64 x.1, .int .i64 x.2]
theorem flat_enc (l : List (Int × Int)) : flatK encR 2 l.toArray = (rcells l).toArray := by
  apply Array.ext
  · rw [size_flatK, List.size_toArray, List.size_toArray, rcells_len]
  · intro t h1 h2
    have ht : t < l.length * 2 := by simpa using h1
    have h := get_flatK encR 2 l.toArray t (by simpa using ht)
    rw [getElem!_pos _ t h1] at h
    rw [h]
    have hi : t / 2 < l.length := by omega
    rw [getElem!_pos l.toArray (t / 2) (by simpa using hi)]
    obtain ⟨g1, g2⟩ := rcells_get l (t / 2) hi
    rcases Nat.mod_two_eq_zero_or_one t with hm | hm
    · have e : t / 2 * 2 = t := by omega
      rw [e] at g1
      rw [hm]
      have := (List.getElem?_eq_some_iff.1 g1).2
      simp only [List.getElem_toArray]
      rw [this]; rfl
    · have e : t / 2 * 2 + 1 = t := by omega
      rw [e] at g2
      rw [hm]
      have := (List.getElem?_eq_some_iff.1 g2).2
      simp only [List.getElem_toArray]
      rw [this]; rfl
theorem lt_cmpI (x y : Int × Int) : ltOf (fun x y : Int × Int => cmpI x.1 y.1) x y = decide (x.1 < y.1) := by
  unfold ltOf cmpI
  by_cases h1 : x.1 < y.1
  · simp [h1]
  · by_cases h2 : y.1 < x.1 <;> simp [h1, h2]
theorem swo_cmpI : SWO (ltOf fun x y : Int × Int => cmpI x.1 y.1) := {
  irrefl := fun x => by rw [lt_cmpI]; simp
  trans := fun x y z h1 h2 => by rw [lt_cmpI] at *; simp at *; omega
  ntrans := fun x y z h1 h2 => by rw [lt_cmpI] at *; simp at *; omega }
theorem xorder1 (x y : Int × Int) (W : World) : Calls Tryz.prog 185 #[.agg #[.int .i64 x.1, .int .i64 x.2], .agg #[.int .i64 y.1, .int .i64 y.2]] W fun e w' => e = .returned (.int .i64 (cmpI x.1 y.1)) ∧ ∃ q os', w' = grow (W.drewN q) os' := by
  have hcon := fun W' => xcmp x.1 y.1 W'
  generalize cmpI x.1 y.1 = r at hcon ⊢
  go_enter Tryz.func185, Tryz.ntmps185
  go_wp2_with (go_at_call 186; refine (hcon _).mono ?_; rintro e w' ⟨rfl, rfl⟩)
  go_ret
  exact ⟨rfl, 0, _, by rw [alloc_eq_grow, alloc_eq_grow, grow_grow]; rfl⟩
theorem xorder2 (x y : Int × Int) (W : World) : Calls Tryz.prog 238 #[.agg #[.int .i64 x.1, .int .i64 x.2], .agg #[.int .i64 y.1, .int .i64 y.2]] W fun e w' => e = .returned (.int .i64 (cmpI x.1 y.1)) ∧ ∃ q os', w' = grow (W.drewN q) os' := by
  have hcon := fun W' => xcmp x.1 y.1 W'
  generalize cmpI x.1 y.1 = r at hcon ⊢
  go_enter Tryz.func238, Tryz.ntmps238
  go_wp2_with (go_at_call 186; refine (hcon _).mono ?_; rintro e w' ⟨rfl, rfl⟩)
  go_ret
  exact ⟨rfl, 0, _, by rw [alloc_eq_grow, alloc_eq_grow, grow_grow]; rfl⟩
theorem sort_row {w : World} {g cap base : Nat} {l : List (Int × Int)} (h : w.ownsRow base 128 2 (.slice (some ⟨g, 0, none⟩) l.length cap) l.length (rcells l)) (m : Nat) (d' : Array (Int × Int)) (os : Array Obj) (hd : d'.size = l.length) :
    (sortWorldK encR 2 w g 0 m d' os).ownsRow base 128 2 (.slice (some ⟨g, 0, none⟩) l.length cap) l.length (rcells d'.toList) ∧ Kept [g] w (sortWorldK encR 2 w g 0 m d' os) := by
  obtain ⟨hl, ⟨e, _⟩ | ⟨g', cap', cur, e, hb, hg, hnc, hcm, hcs, htake⟩⟩ := h
  · simp at e
  · injection e with e e2 e3
    injection e with e
    injection e with e _ _
    subst e e3
    have hlt := lt_of_block hg
    have hblock : (sortWorldK encR 2 w g 0 m d' os).heap[g]? = some (.cells (putCells id 0 (flatK encR 2 d') cur) 128 (0, 0)) := by
      unfold sortWorldK
      rw [heap_grow_old _ _ (by show g < (putRowK encR 2 (Go.Sort.ahead w m) g 0 d').heap.size; simp [putRowK, putRow, mapBlock, Go.Sort.ahead]; exact hlt)]
      simp [putRowK, putRow, mapBlock, Go.Sort.ahead, Array.getElem?_modify, hg, onCells]
    have hsz : (putCells id 0 (flatK encR 2 d') cur).size = cur.size := by simp [putCells]
    refine ⟨⟨by rw [rcells_len, ← hd]; simp, Or.inr ⟨g, cap, _, rfl, hb, hblock, hnc, hcm, by rw [hsz, hcs], ?_⟩⟩, ⟨rfl, rfl, rfl, ?_, fun k hk hS => ?_⟩⟩
    · have hf := flat_enc d'.toList
      rw [Array.toArray_toList] at hf
      rw [hf]
      apply List.ext_getElem?
      intro i
      by_cases hi : i < l.length * 2
      · rw [List.getElem?_take_of_lt hi]
        have hic : i < cur.size := by rw [hcs]; have := Nat.mul_le_mul_right 2 hnc; omega
        have hir : i < (rcells d'.toList).length := by rw [rcells_len]; simp [hd]; exact hi
        rw [Array.getElem?_toList, List.getElem?_eq_getElem hir]
        unfold putCells
        rw [Array.getElem?_mapIdx, Array.getElem?_eq_getElem hic]
        simp only [Option.map_some, List.size_toArray, Nat.zero_add, Nat.sub_zero, id]
        rw [if_pos ⟨Nat.zero_le _, hir⟩, getElem!_pos _ i (by simpa using hir)]
        simp
      · rw [List.getElem?_eq_none (by rw [List.length_take]; omega), List.getElem?_eq_none (by rw [rcells_len]; simp [hd]; omega)]
    · unfold sortWorldK
      simp [putRowK, putRow, mapBlock, Go.Sort.ahead]
    · have hne : g ≠ k := by simpa using fun e => hS (by simp [e])
      unfold sortWorldK
      rw [heap_grow_old _ _ (by show k < (putRowK encR 2 (Go.Sort.ahead w m) g 0 d').heap.size; simp [putRowK, putRow, mapBlock, Go.Sort.ahead]; exact hk)]
      simp [putRowK, putRow, mapBlock, Go.Sort.ahead, Array.getElem?_modify, hne]
def Rising (l : List (Int × Int)) : Prop := List.Pairwise (fun a b => a.1 ≤ b.1) l
theorem rising_of {d : Array (Int × Int)} (h : SortedIn (ltOf fun x y : Int × Int => cmpI x.1 y.1) 0 d.size d) : Rising d.toList := by
  unfold Rising
  rw [List.pairwise_iff_getElem]
  intro i j hi hj hij
  have hi' : i < d.size := by simpa using hi
  have hj' : j < d.size := by simpa using hj
  have := h i j (Nat.zero_le _) hij hj'
  rw [lt_cmpI, getElem!_pos d i hi', getElem!_pos d j hj'] at this
  simp at this
  simpa using this
def SortSays (base : Nat) (v : Value) (l : List (Int × Int)) (w : World) (e : Ending) (w' : World) : Prop :=
  e = .returned (.tuple #[]) ∧ ∃ l' : List (Int × Int), l'.Perm l ∧ Rising l' ∧ w'.ownsRow base 128 2 v l.length (rcells l') ∧ ∀ S, (∀ g, v.ownBlock = some g → g ∈ S) → Kept S w w'
theorem xsort_none (c : Nat) (p : Option Addr) (f : Nat) (w : World) : Calls Tryz.prog 271 #[.slice p 0 c, .int .i64 0, .int .i64 0, .func (.func f) #[] #[]] w fun e w' => e = .returned (.tuple #[]) ∧ w = w' := by
  go_enter Tryz.func271, Tryz.ntmps271
  go_wp2_with fail
  refine wp_loop_rounds 1 ?_
  rw [rounds_succ]
  go_wp2_with fail
  go_end0
  exact ⟨rfl, rfl⟩
theorem xpdq_none (c : Nat) (p : Option Addr) (lim : Int) (f : Nat) (w : World) : Calls Tryz.prog 239 #[.slice p 0 c, .int .i64 0, .int .i64 0, .int .i64 lim, .func (.func f) #[] #[]] w fun e w' => e = .returned (.tuple #[]) ∧ w = w' := by
  go_enter Tryz.func239, Tryz.ntmps239
  go_wp2_with fail
  refine wp_loop_rounds 1 ?_
  rw [rounds_succ]
  go_wp2_with (go_at_call 271; refine (xsort_none _ _ _ _).mono ?_; rintro e w' ⟨rfl, rfl⟩)
  (try simp only [Exit.inBlock, Exit.then]); refine bodyPost_ret (results_none rfl _ _ _) rfl ?_
  exact ⟨rfl, rfl⟩
theorem xsort (f base : Nat) (v : Value) (l : List (Int × Int)) (w : World) (h : w.ownsRow base 128 2 v l.length (rcells l)) (hl : l.length ≤ 1000000)
    (eg : ∀ args w, (callFunc f args).run Tryz.prog w = .ok (.enter f args) w)
    (hf : ∀ (x y : Int × Int) (W : World), Calls Tryz.prog f #[.agg #[.int .i64 x.1, .int .i64 x.2], .agg #[.int .i64 y.1, .int .i64 y.2]] W fun e w' => e = .returned (.int .i64 (cmpI x.1 y.1)) ∧ ∃ q os', w' = grow (W.drewN q) os') :
    Calls Tryz.prog 184 #[v, .func (.func f) #[] #[]] w (SortSays base v l w) := by
  by_cases h0 : l.length = 0
  · have hl0 : l = [] := List.eq_nil_of_length_eq_zero h0
    subst hl0
    have H := Lib.hid h
    obtain ⟨p, c, rfl⟩ := own_shape h
    clear h hf eg hl
    have hb := fun W => Tryz.bits_Len 0 W (by omega) (by omega)
    go_enter Tryz.func184, Tryz.ntmps184
    go_wp2_with (first
      | (go_at_call 240; refine (hb _).mono ?_; rintro e w' ⟨rfl, rfl⟩)
      | (go_at_call 239; refine (xpdq_none _ _ _ _ _).mono ?_; rintro e w' ⟨rfl, rfl⟩))
    go_end0
    exact ⟨rfl, [], List.Perm.refl _, List.Pairwise.nil, H.out, fun S _ => Kept.refl _ _⟩
  · obtain ⟨g, c, rfl, hb, hlt, hnc, hcm, hcell⟩ := ownsRow_at h (by omega)
    have hd : l.toArray.size = l.length := by simp
    have hH : HoldsK encR 2 w g 0 l.toArray := by
      intro j hj
      have hj2 : j < (rcells l).length := by rw [flat_enc] at hj; simpa using hj
      rw [flat_enc, Nat.zero_add]
      refine ⟨?_, World.ownsRow.frozenAt h j⟩
      rw [hcell j _ (List.getElem?_eq_getElem hj2), getElem!_pos _ j (by simpa using hj2)]
      simp
    have hcl : CmpLays Tryz.prog f #[] encR 2 (fun x y => cmpI x.1 y.1) g 0 l.toArray.size w := fun _ _ _ _ x y => hf x y _
    have hcon := AnyQ.slices_SortFunc Tryz.sortRun 2 Tryz.isAgg128 Tryz.sizeOf128 encR (fun _ => rfl) (fun x v hv => by simp [encR] at hv; rcases hv with rfl | rfl <;> rfl) (fun x y => cmpI x.1 y.1) swo_cmpI f #[] g 0 c l.toArray w eg hcl hH hlt (by rw [hd]; omega)
    rw [hd] at hcon
    refine hcon.mono fun e w' ⟨he, d', n, os, hp, hs, hw⟩ => ?_
    obtain ⟨hp1, _, hp3⟩ := hp
    have hds : d'.size = l.length := by rw [hp1, hd]
    obtain ⟨r1, r2⟩ := sort_row h n d' os hds
    rw [← hds] at hs
    have hperm : d'.toList.Perm l := by
      have e1 : (d'.extract 0 l.length).toList = d'.toList := by rw [← hds]; simp
      have e2 : (l.toArray.extract 0 l.length).toList = l := by simp
      rwa [e1, e2] at hp3
    subst hw
    exact ⟨he, d'.toList, hperm, rising_of hs, r1, fun S hS => r2.mono (fun x hx => by
      have hx : x = g := by simpa using hx
      subst hx; exact hS x (by simp [Value.ownBlock]))⟩
theorem xsort1 (base : Nat) (v : Value) (l : List (Int × Int)) (w : World) (h : w.ownsRow base 128 2 v l.length (rcells l)) (hl : l.length ≤ 1000000) :
    Calls Tryz.prog 184 #[v, .func (.func 185) #[] #[]] w (SortSays base v l w) :=
  xsort 185 base v l w h hl (enters_of Tryz.func185 (by kernel_rfl) rfl) xorder1
theorem xsort2 (base : Nat) (v : Value) (l : List (Int × Int)) (w : World) (h : w.ownsRow base 128 2 v l.length (rcells l)) (hl : l.length ≤ 1000000) :
    Calls Tryz.prog 184 #[v, .func (.func 238) #[] #[]] w (SortSays base v l w) :=
  xsort 238 base v l w h hl (enters_of Tryz.func238 (by kernel_rfl) rfl) xorder2
end Go.Proofs.YtdkimcnlhmhpgaaGreat

/- -/
namespace Go.Proofs.YtdkimcnlhmhpgaaGreat
open Go.RowKit
def clipL (l : List (Int × Int)) : List (Int × Int) := l.filterMap fun a => if (clipOf a).2 = true then some (clipOf a).1 else none
theorem clipL_snoc (l : List (Int × Int)) (a : Int × Int) : clipL (l ++ [a]) = clipL l ++ (if (clipOf a).2 = true then [(clipOf a).1] else []) := by
  unfold clipL
  rw [List.filterMap_append]
  congr 1
  by_cases h : (clipOf a).2 = true
  · simp [h]
  · simp [h]
theorem clipL_len (l : List (Int × Int)) : (clipL l).length ≤ l.length := List.length_filterMap_le _ _
theorem clip_ok {a : Int × Int} (h : (clipOf a).2 = true) : 0 ≤ (clipOf a).1.1 ∧ 1 ≤ (clipOf a).1.2 ∧ (clipOf a).1.1 + (clipOf a).1.2 ≤ 8192 := by
  unfold clipOf at *
  by_cases h1 : a.2 < 1 ∨ 8192 ≤ a.1
  · rw [if_pos h1] at h; cases h
  · rw [if_neg h1] at h ⊢
    by_cases h2 : a.1 < 0
    · rw [if_pos h2] at h ⊢
      have h := of_decide_eq_true h
      simp only
      omega
    · rw [if_neg h2] at h ⊢
      have h := of_decide_eq_true h
      simp only
      omega
theorem clip_is (a : Int × Int) (k : Nat) (hk : k < 8192) : ((clipOf a).2 = true ∧ (clipOf a).1.1 ≤ k ∧ (k : Int) < (clipOf a).1.1 + (clipOf a).1.2) ↔ (a.1 ≤ k ∧ (k : Int) < a.1 + a.2) := by
  unfold clipOf
  by_cases h1 : a.2 < 1 ∨ 8192 ≤ a.1
  · rw [if_pos h1]; simp; omega
  · rw [if_neg h1]
    by_cases h2 : a.1 < 0
    · rw [if_pos h2]; simp; omega
    · rw [if_neg h2]; simp; omega
theorem clipL_mem {l : List (Int × Int)} {r : Int × Int} (h : r ∈ clipL l) : 0 ≤ r.1 ∧ 1 ≤ r.2 ∧ r.1 + r.2 ≤ 8192 := by
  unfold clipL at h
  rw [List.mem_filterMap] at h
  obtain ⟨a, _, ha⟩ := h
  by_cases hc : (clipOf a).2 = true
  · rw [if_pos hc] at ha
    injection ha with ha
    subst ha
    exact clip_ok hc
  · rw [if_neg hc] at ha; cases ha
theorem clipL_is (l : List (Int × Int)) (k : Nat) (hk : k < 8192) : inS (clipL l) k ↔ hasB l k = true := by
  rw [hasB_iff]
  unfold inS clipL
  constructor
  · rintro ⟨r, hr, h1, h2⟩
    rw [List.mem_filterMap] at hr
    obtain ⟨a, ha, hx⟩ := hr
    by_cases hc : (clipOf a).2 = true
    · rw [if_pos hc] at hx
      injection hx with hx
      subst hx
      exact ⟨a, ha, (clip_is a k hk).1 ⟨hc, h1, h2⟩⟩
    · rw [if_neg hc] at hx; cases hx
  · rintro ⟨a, ha, h⟩
    obtain ⟨h1, h2, h3⟩ := (clip_is a k hk).2 h
    exact ⟨(clipOf a).1, List.mem_filterMap.2 ⟨a, ha, by rw [if_pos h1]⟩, h2, h3⟩
def mstep (o : List (Int × Int)) (r : Int × Int) : List (Int × Int) :=
  match o.getLast? with
  | some q => if r.1 ≤ q.1 + q.2 then o.dropLast ++ [(q.1, max q.2 (r.1 + r.2 - q.1))] else o ++ [r]
  | none => [r]
theorem mstep_nil (r : Int × Int) : mstep [] r = [r] := rfl
theorem mstep_le {i : List (Int × Int)} {q r : Int × Int} (h : r.1 ≤ q.1 + q.2) : mstep (i ++ [q]) r = i ++ [(q.1, max q.2 (r.1 + r.2 - q.1))] := by
  unfold mstep
  rw [List.getLast?_append, List.dropLast_concat]
  show (if r.1 ≤ q.1 + q.2 then _ else _) = _
  rw [if_pos h]
  rfl
theorem mstep_gt {i : List (Int × Int)} {q r : Int × Int} (h : ¬ r.1 ≤ q.1 + q.2) : mstep (i ++ [q]) r = i ++ [q] ++ [r] := by
  unfold mstep
  rw [List.getLast?_append]
  show (if r.1 ≤ q.1 + q.2 then _ else _) = _
  rw [if_neg h]
def mergeTo (s : List (Int × Int)) (k : Nat) : List (Int × Int) := (s.take k).foldl mstep []
theorem mergeTo_succ (s : List (Int × Int)) (k : Nat) (h : k < s.length) : mergeTo s (k + 1) = mstep (mergeTo s k) s[k] := by
  unfold mergeTo; rw [List.take_succ_eq_append_getElem h, List.foldl_append]; rfl
structure MergeOk (s : List (Int × Int)) (k : Nat) : Prop where
  pl : Pl 0 (mergeTo s k)
  is : ∀ j : Int, inS (mergeTo s k) j ↔ inS (s.take k) j
  low : ∀ x ∈ mergeTo s k, ∃ y ∈ s.take k, x.1 = y.1
theorem merge_ok (s : List (Int × Int)) (hs : Rising s) (hr : ∀ r ∈ s, 0 ≤ r.1 ∧ 1 ≤ r.2 ∧ r.1 + r.2 ≤ 8192) (k : Nat) (hk : k ≤ s.length) : MergeOk s k := by
  induction k with
  | zero => exact ⟨trivial, fun j => Iff.rfl, fun x hx => by cases hx⟩
  | succ k ih =>
    obtain ⟨h1, h2, h3⟩ := ih (by omega)
    have hlt : k < s.length := by omega
    obtain ⟨r1, r2, r3⟩ := hr s[k] (List.getElem_mem _)
    have htk : s.take (k + 1) = s.take k ++ [s[k]] := List.take_succ_eq_append_getElem hlt
    have hlow : ∀ x ∈ mergeTo s k, x.1 ≤ s[k].1 := fun x hx => by
      obtain ⟨y, hy, e⟩ := h3 x hx
      rw [e]
      rw [List.mem_take_iff_getElem] at hy
      obtain ⟨i, hi, rfl⟩ := hy
      exact (List.pairwise_iff_getElem.1 hs) i k (by omega) hlt (by omega)
    have hms := mergeTo_succ s k hlt
    rcases List.eq_nil_or_concat (mergeTo s k) with e | ⟨i, q, e⟩
    · rw [e, mstep_nil] at hms
      refine ⟨by rw [hms]; exact ⟨r1, r2, r3, trivial⟩, fun j => ?_, fun x hx => ?_⟩
      · rw [hms, htk, inS_append, ← h2 j, e]
        exact ⟨fun h => Or.inr h, fun h => h.elim (fun h => absurd h (inS_nil j)) id⟩
      · rw [hms] at hx
        have hx : x = s[k] := by simpa using hx
        exact ⟨s[k], by rw [htk]; exact List.mem_append_right _ (List.mem_singleton.2 rfl), by rw [hx]⟩
    · rw [List.concat_eq_append] at e
      rw [e] at h1 hlow
      obtain ⟨q1, q2, q3, q4, q5⟩ := h1.init
      have hq := hlow q (by simp)
      by_cases hc : s[k].1 ≤ q.1 + q.2
      · rw [e, mstep_le hc] at hms
        refine ⟨?_, fun j => ?_, fun x hx => ?_⟩
        · rw [hms]
          exact q1.snoc q2 (by show 1 ≤ max q.2 _; omega) (by show q.1 + max q.2 _ ≤ 8192; omega) q5
        · rw [hms, htk, inS_append, inS_append, ← h2 j, e, inS_append, inS_one, inS_one, inS_one, or_assoc]
          refine or_congr Iff.rfl ?_
          show (q.1 ≤ j ∧ j < q.1 + max q.2 (s[k].1 + s[k].2 - q.1)) ↔ _
          omega
        · rw [hms] at hx
          rcases List.mem_append.1 hx with hx | hx
          · obtain ⟨y, hy, e2⟩ := h3 x (by rw [e]; exact List.mem_append_left _ hx)
            exact ⟨y, by rw [htk]; exact List.mem_append_left _ hy, e2⟩
          · obtain ⟨y, hy, e2⟩ := h3 q (by rw [e]; simp)
            have hx : x = (q.1, max q.2 (s[k].1 + s[k].2 - q.1)) := by simpa using hx
            exact ⟨y, by rw [htk]; exact List.mem_append_left _ hy, by rw [hx]; exact e2⟩
      · rw [e, mstep_gt hc] at hms
        refine ⟨?_, fun j => ?_, fun x hx => ?_⟩
        · rw [hms]
          refine h1.snoc r1 r2 r3 (fun x hx => ?_)
          rcases List.mem_append.1 hx with hx | hx
          · have := q5 x hx; omega
          · have hx : x = q := by simpa using hx
            subst hx; omega
        · have h2j := h2 j
          rw [e] at h2j
          rw [hms, htk, inS_append, inS_append (a := s.take k), ← h2j]
        · rw [hms] at hx
          rcases List.mem_append.1 hx with hx | hx
          · obtain ⟨y, hy, e2⟩ := h3 x (by rw [e]; exact hx)
            exact ⟨y, by rw [htk]; exact List.mem_append_left _ hy, e2⟩
          · have hx : x = s[k] := by simpa using hx
            exact ⟨s[k], by rw [htk]; exact List.mem_append_right _ (List.mem_singleton.2 rfl), by rw [hx]⟩
theorem merge_plain {l s : List (Int × Int)} (hp : s.Perm (clipL l)) (hs : Rising s) : mergeTo s s.length = plainL l := by
  have hr : ∀ r ∈ s, 0 ≤ r.1 ∧ 1 ≤ r.2 ∧ r.1 + r.2 ≤ 8192 := fun r h => clipL_mem (hp.mem_iff.1 h)
  have h := merge_ok s hs hr s.length (Nat.le_refl _)
  refine canon_eq h.pl (fun m hm => ?_)
  rw [h.is, List.take_length, ← clipL_is l m hm]
  unfold inS
  exact ⟨fun ⟨r, h1, h2⟩ => ⟨r, hp.mem_iff.1 h1, h2⟩, fun ⟨r, h1, h2⟩ => ⟨r, hp.mem_iff.2 h1, h2⟩⟩
theorem mergeTo_len (s : List (Int × Int)) (k : Nat) : (mergeTo s k).length ≤ k := by
  induction k with
  | zero => exact Nat.le_refl _
  | succ k ih =>
    by_cases h : k < s.length
    · rw [mergeTo_succ s k h]
      rcases List.eq_nil_or_concat (mergeTo s k) with e | ⟨i, q, e⟩
      · rw [e, mstep_nil]; simp
      · rw [List.concat_eq_append] at e
        rw [e] at ih ⊢
        by_cases hc : s[k].1 ≤ q.1 + q.2
        · rw [mstep_le hc]; simp at ih ⊢; omega
        · rw [mstep_gt hc]; simp at ih ⊢; omega
    · have e : mergeTo s (k + 1) = mergeTo s k := by unfold mergeTo; rw [List.take_of_length_le (by omega), List.take_of_length_le (by omega)]
      rw [e]; omega
end Go.Proofs.YtdkimcnlhmhpgaaGreat
