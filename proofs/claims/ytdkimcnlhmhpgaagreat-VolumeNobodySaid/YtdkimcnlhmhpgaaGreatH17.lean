/- -/
import Derived.Test.YtdkimcnlhmhpgaaGreatShelf
import Derived.Test.YtdkimcnlhmhpgaaGreatH04
import Derived.Test.YtdkimcnlhmhpgaaGreatH05
import Derived.Test.YtdkimcnlhmhpgaaGreatH10
import Derived.Test.YtdkimcnlhmhpgaaGreatH16
import Derived.Lib.SliceRun
import Derived.Lib.AppendZerosOnto
import Derived.Laws.IdiomCopy
import Derived.LoopN
set_option linter.unusedVariables false
set_option linter.unusedSimpArgs false
namespace Go.Proofs.YtdkimcnlhmhpgaaGreat
open Go.RowKit
def splL (cur : List Value) (o : Nat) (vs : List Value) : List Value := cur.take o ++ (vs ++ cur.drop (o + vs.length))
theorem splL_len {cur vs : List Value} {o : Nat} (h : o + vs.length ≤ cur.length) : (splL cur o vs).length = cur.length := by
 unfold splL; rw [List.length_append, List.length_append, List.length_take, List.length_drop]; omega
theorem splL_nil (cur : List Value) (o : Nat) : splL cur o [] = cur := by unfold splL; simp
theorem splL_cons {cur : List Value} {o : Nat} {v : Value} {r : List Value} (h : o < cur.length) : splL (cur.set o v) (o + 1) r = splL cur o (v :: r) := by
 unfold splL
 have e1 : (cur.set o v).take (o + 1) = cur.take o ++ [v] := by
  rw [List.take_succ_eq_append_getElem (by simpa using h), List.getElem_set_self, List.take_set_of_le (Nat.le_refl _)]
 have e2 : (cur.set o v).drop (o + 1 + r.length) = cur.drop (o + (v :: r).length) := by
  rw [List.drop_set_of_lt (by omega), List.length_cons]
  congr 1; omega
 rw [e1, e2]
 simp
theorem Own.setL {b : Nat} {t : TypeId} : ∀ (vs : List Value) (o : Nat) {w : World} {cur : List Value}, Own w b cur.toArray t → o + vs.length ≤ cur.length → Own (w.setCells b o vs) b (splL cur o vs).toArray t
 | [], o, w, cur, h, _ => by rw [splL_nil]; exact h
 | v :: r, o, w, cur, h, hl => by
  rw [List.length_cons] at hl
  have h1 := h.set o v
  rw [List.setIfInBounds_toArray] at h1
  have h2 := Own.setL r (o + 1) h1 (by rw [List.length_set]; omega)
  rw [splL_cons (by omega)] at h2
  exact h2
theorem kept_setL {S : List Nat} {w0 : World} {b : Nat} (hb : b ∈ S ∨ w0.heap.size ≤ b) : ∀ (vs : List Value) (o : Nat) {w : World}, Kept S w0 w → Kept S w0 (w.setCells b o vs)
 | [], _, _, h => h
 | v :: r, o, w, h => kept_setL hb r (o + 1) (h.setCell (by exact hb) v)
theorem Own.otherL {b g : Nat} {t : TypeId} {cs : Array Value} (hg : b ≠ g) : ∀ (vs : List Value) (o : Nat) {w : World}, Own w b cs t → Own (w.setCells g o vs) b cs t
 | [], _, _, h => h
 | v :: r, o, w, h => Own.otherL hg r (o + 1) (h.other (by exact hg) v)
theorem splL_take {cur vs : List Value} {o : Nat} (h : o + vs.length ≤ cur.length) : (splL cur o vs).take (o + vs.length) = cur.take o ++ vs := by
 unfold splL
 have hl : (cur.take o).length = o := by rw [List.length_take]; omega
 rw [← List.append_assoc, List.take_append_of_le_length (by rw [List.length_append]; omega), List.take_of_length_le (by rw [List.length_append]; omega)]
theorem splL_low {cur vs : List Value} {o k : Nat} (h : o ≤ cur.length) (hk : k ≤ o) : (splL cur o vs).take k = cur.take k := by
 unfold splL
 rw [List.take_append_of_le_length (by rw [List.length_take]; omega), List.take_take, Nat.min_eq_left hk]
def RawIn (w : World) (v : Value) (n k : Nat) (xs : List Value) : Prop :=
 xs.length = n * k ∧ ((n = 0 ∧ ∃ a c, v = .slice a 0 c) ∨ ∃ b off c, v = .slice (some ⟨b, off, none⟩) n c ∧ (∀ j u, xs[j]? = some u → w.cell? ⟨b, off + j, none⟩ = some u) ∧ b < w.heap.size ∧ 0 < n ∧ n ≤ c ∧ c ≤ maxLen)
theorem RawIn.kept0 {w w' : World} {v : Value} {n k : Nat} {xs : List Value} (h : RawIn w v n k xs) (q : Kept [] w w') : RawIn w' v n k xs := by
 refine ⟨h.1, ?_⟩
 rcases h.2 with h2 | ⟨b, off, c, e, h3, h4, h5⟩
 ·exact Or.inl h2
 ·exact Or.inr ⟨b, off, c, e, fun j u hj => (q.cell (by exact h4) (by simp)).trans (h3 j u hj), Nat.lt_of_lt_of_le h4 q.size, h5⟩
theorem RawIn.shape {w : World} {v : Value} {n k : Nat} {xs : List Value} (h : RawIn w v n k xs) : ∃ p c, v = .slice p n c := by
 rcases h.2 with ⟨rfl, a, c, rfl⟩ | ⟨b, off, c, rfl, _⟩
 ·exact ⟨a, c, rfl⟩
 ·exact ⟨_, c, rfl⟩
theorem RawIn.of_own {w : World} {base : Nat} {e : TypeId} {k n : Nat} {v : Value} {xs : List Value} (h : w.ownsRow base e k v n xs) : RawIn w v n k xs := by
 refine ⟨h.1, ?_⟩
 rcases h.2 with ⟨rfl, rfl⟩ | ⟨g, c, cur, rfl, g1, g2, g3, g4, g5, g6⟩
 ·exact Or.inl ⟨rfl, _, _, rfl⟩
 ·by_cases h0 : n = 0
  ·subst h0; exact Or.inl ⟨rfl, _, _, rfl⟩
  ·refine Or.inr ⟨g, 0, c, rfl, fun j u hj => ?_, lt_of_block g2, by omega, g3, g4⟩
   have := h.cells (g := g) rfl j u hj
   rw [Go.WideShapes.add_plain] at this
   exact this
theorem RawIn.at_ {w : World} {p : Option Addr} {n c k : Nat} {xs : List Value} (h : RawIn w (.slice p n c) n k xs) (hn : 0 < n) : ∃ b off, p = some ⟨b, off, none⟩ ∧ (∀ j u, xs[j]? = some u → w.cell? ⟨b, off + j, none⟩ = some u) ∧ b < w.heap.size ∧ n ≤ c ∧ c ≤ maxLen := by
 rcases h.2 with ⟨h0, _⟩ | ⟨b, off, c', e, h3, h4, h5, h6, h7⟩
 ·omega
 ·injection e with e1 _ e3
  subst e1 e3
  exact ⟨b, off, rfl, h3, h4, h6, h7⟩
theorem run_copy_k {P : Program} (w : World) (dT sT ty elem : TypeId) (k : Nat) (b o dLen dCap : Nat) (a : Addr) (sLen sCap m : Nat) (cs : List Value)
  (hu : P.underlying dT = some (.slice elem)) (hs : (P.info? elem).map (·.size) = some k) (hm : Nat.min sLen dLen = m) (hn : cs.length = m * k)
  (hsrc : ∀ j v, cs[j]? = some v → w.cell? (a.add j) = some v) (hc : ∀ j, j < cs.length → (w.cell? ⟨b, o + j, none⟩).isSome = true) (hf : ∀ j, j < cs.length → w.frozen? ⟨b, o + j, none⟩ = false) (h1 : ∀ v ∈ cs, v.oneCell' = true) :
  (Builtin.copy_ #[dT, sT] ty #[.slice (some ⟨b, o, none⟩) dLen dCap, .slice (some a) sLen sCap]).run P w = .ok (.int .i64 m) (w.setCells b o cs) := by
 have hl := run_loadCells_list (P := P) w a cs hsrc
 have hst := run_storeCells_cells (P := P) b o cs 0 w (by simpa using hc) (by simpa using hf) h1
 cases hq : P.info? elem with
 | none => simp [hq] at hs
 | some i =>
  simp [hq] at hs
  rw [hn] at hl
  simp [Builtin.copy_, run_underlying hu, Builtin.lenOf, Builtin.firstCells, sizeOf, typeInfo, hq, hs, hm, hl, hst, goInt]
theorem infoItem : ∃ i, Tryz.prog.info? 113 = some i ∧ i.zero = some (.agg #[.int .u32 0, .string { data := #[] }, .int .i64 0, .slice none 0 0]) ∧ i.size = 4 ∧ i.bytes = 56 := by
 have hi : (Tryz.prog.info? 113).map (fun i => (i.zero, i.size, i.bytes)) = some (some (.agg #[.int .u32 0, .string { data := #[] }, .int .i64 0, .slice none 0 0]), 4, 56) := by kernel_rfl
 obtain ⟨i0, hi0, hz0, hz1, hz2⟩ := info_parts hi
 exact ⟨i0, hi0, hz0, hz1, hz2⟩
def icells (vs : List (JItem × Value)) : List Value := (vs.map fun x => [Value.int .u32 x.1.id, Value.string (bs x.1.name), Value.int .i64 x.1.size, x.2]).flatten
theorem icells_cons (x : JItem × Value) (vs : List (JItem × Value)) : icells (x :: vs) = Value.int .u32 x.1.id :: Value.string (bs x.1.name) :: Value.int .i64 x.1.size :: x.2 :: icells vs := rfl
theorem icells_append (a b : List (JItem × Value)) : icells (a ++ b) = icells a ++ icells b := by unfold icells; rw [List.map_append, List.flatten_append]
theorem icells_take (vs : List (JItem × Value)) (i : Nat) : (icells vs).take (i * 4) = icells (vs.take i) := by
 induction vs generalizing i with
 | nil => simp [icells]
 | cons a l ih =>
  cases i with
  | zero => simp [icells]
  | succ i =>
   rw [List.take_succ_cons, icells_cons, icells_cons, show (i + 1) * 4 = i * 4 + 1 + 1 + 1 + 1 by omega]
   simp only [List.take_succ_cons, ih]
theorem icells_drop (vs : List (JItem × Value)) (i : Nat) : (icells vs).drop (i * 4) = icells (vs.drop i) := by
 induction vs generalizing i with
 | nil => simp [icells]
 | cons a l ih =>
  cases i with
  | zero => simp [icells]
  | succ i =>
   rw [List.drop_succ_cons, icells_cons, show (i + 1) * 4 = i * 4 + 1 + 1 + 1 + 1 by omega]
   simp only [List.drop_succ_cons, ih]
theorem icells_get (l : List (JItem × Value)) (i : Nat) (h : i < l.length) : (icells l)[i * 4]? = some (.int .u32 l[i].1.id) ∧ (icells l)[i * 4 + 1]? = some (.string (bs l[i].1.name)) ∧ (icells l)[i * 4 + 2]? = some (.int .i64 l[i].1.size) ∧ (icells l)[i * 4 + 3]? = some l[i].2 := by
 have e := icells_drop l i
 rw [List.drop_eq_getElem_cons h, icells_cons] at e
 have g : ∀ j, (icells l)[i * 4 + j]? = ((icells l).drop (i * 4))[j]? := fun j => by rw [List.getElem?_drop]
 have g0 := g 0
 rw [Nat.add_zero] at g0
 rw [g0, g 1, g 2, g 3, e]
 exact ⟨rfl, rfl, rfl, rfl⟩
def SlV (v : Value) : Prop := ∃ p n c, v = .slice p n c
theorem icells_one {vs : List (JItem × Value)} (h : ∀ x ∈ vs, SlV x.2) : ∀ u ∈ icells vs, u.oneCell' = true := by
 induction vs with
 | nil => intro u hu; simp [icells] at hu
 | cons a l ih =>
  intro u hu
  rw [icells_cons] at hu
  simp only [List.mem_cons] at hu
  rcases hu with rfl | rfl | rfl | rfl | hu
  ·rfl
  ·rfl
  ·rfl
  ·obtain ⟨p, n, c, e⟩ := h a List.mem_cons_self
   rw [e]; rfl
  ·exact ih (fun x hx => h x (List.mem_cons_of_mem _ hx)) u hu
set_option maxRecDepth 100000 in
set_option maxHeartbeats 2000000 in
theorem zclone (v : Value) (n : Nat) (xs : List Value) (w : World) (h : RawIn w v n 4 xs) (h1 : ∀ u ∈ xs, u.oneCell' = true) (hn : n ≤ 1000000) :
  Calls Tryz.prog 127 #[v] w fun e w' => ∃ v', e = .returned v' ∧ w'.ownsRow w.heap.size 113 4 v' n xs ∧ Kept [] w w' := by
 obtain ⟨i0, hi0, hz0, hz1, hz2⟩ := infoItem
 have q22 : ∀ (w : World) (a : Option Addr) (n c n' c' : Nat), (binOp .eql 50 (.slice a n c) (.slice none n' c')).run Tryz.prog w = .ok (.bool a.isNone) w := fun w a n c n' c' => Lib.run_eql_slice_nil w _ _ a n c n' c' Tryz.underlying50
 obtain ⟨p, c, rfl⟩ := h.shape
 cases p with
 | none =>
  have hn0 : n = 0 := by
   rcases h.2 with ⟨h, _⟩ | ⟨b, off, c', e, _⟩
   ·exact h
   ·simp at e
  subst hn0
  have hx : xs = [] := List.eq_nil_of_length_eq_zero (by rw [h.1])
  subst hx
  clear h h1
  go_enter Tryz.func127, Tryz.ntmps127
  go_wp2_with fail
  go_ret
  exact ⟨_, rfl, World.ownsRow_nil _ _ _ _, Kept.refl _ _⟩
 | some ad =>
  have hcell : ∀ j u, xs[j]? = some u → w.cell? (ad.add j) = some u := by
   rcases h.2 with ⟨h0, _⟩ | ⟨b, off, c', e, h2, _⟩
   ·intro j u hj
    have hx : xs = [] := List.eq_nil_of_length_eq_zero (by rw [h.1]; omega)
    subst hx; simp at hj
   ·injection e with e1 _ e3
    injection e1 with e1
    subst e1
    intro j u hj
    rw [Go.WideShapes.add_plain]
    exact h2 j u hj
  have A := Lib.hid hcell
  have HR1 := Lib.hid h.1
  have HR2 := Lib.hid h1
  clear hcell h h1
  go_enter Tryz.func127, Tryz.ntmps127
  go_wp2_with (at_builtin; refine wpList_append_own _ rfl _ _ 50 rfl w.heap.size 113 i0 _ 4 56 Tryz.underlying50 hi0 hz0 hz1 hz2 rfl (by decide) _ _ _ rfl (World.ownsRow_made w #[] 0 (Nat.le_refl _) (Nat.zero_le _) (by simp)) ad n c xs rfl ?qc1 ?qc2 ?qc3 ?qc4 ?qc5 ?qc6 ?_)
  case qc1 => exact HR1.out
  case qc2 => intro j u hj; exact Lib.cell?_alloc_some _ (A.out j u hj)
  case qc3 => exact HR2.out
  case qc4 => unfold maxLen; omega
  case qc5 => omega
  case qc6 => simp
  intro v' w1 hown hgrow hnil
  have hro : w1.ownsRow w.heap.size 113 4 v' n xs := by simpa using hown
  have HRO := Lib.hid hro
  have hk1 : Kept [] w w1 := ((Kept.refl _ _).alloc _).grown hgrow (fun k hk => Or.inr (by simp [Value.ownBlock] at hk; omega))
  clear hown hgrow hnil hro
  go_wp2_with fail
  go_ret
  exact ⟨_, rfl, HRO.out, hk1⟩
def cmpU (x y : Int) : Int := if x < y then -1 else if x = y then 0 else 1
set_option maxRecDepth 100000 in
theorem zcmpu (x y : Int) (w : World) : Calls Tryz.prog 267 #[.int .u32 x, .int .u32 y] w fun e w' => e = .returned (.int .i64 (cmpU x y)) ∧ w = w' := by
 have hn : ∀ (x : Int) W, Calls Tryz.prog 290 #[.int .u32 x] W fun e w' => e = .returned (.bool false) ∧ W = w' := fun x W => by
  go_enter Tryz.func290, Tryz.ntmps290
  go_wp2_with fail
  go_ret
  exact ⟨rfl, rfl⟩
 unfold cmpU
 rcases Int.lt_trichotomy x y with h | h | h
 ·rw [if_pos h]
  go_enter Tryz.func267, Tryz.ntmps267
  go_wp2_with fail
  refine (hn _ _).mono ?_; rintro e w1 ⟨rfl, rfl⟩
  go_wp2_with fail
  refine (hn _ _).mono ?_; rintro e w1 ⟨rfl, rfl⟩
  go_wp2_with fail
  go_ret
  exact ⟨rfl, rfl⟩
 ·subst h
  rw [if_neg (by omega), if_pos rfl]
  go_enter Tryz.func267, Tryz.ntmps267
  go_wp2_with fail
  refine (hn _ _).mono ?_; rintro e w1 ⟨rfl, rfl⟩
  go_wp2_with fail
  refine (hn _ _).mono ?_; rintro e w1 ⟨rfl, rfl⟩
  go_wp2_with fail
  go_ret
  exact ⟨rfl, rfl⟩
 ·have h1 : ¬ x < y := by omega
  have h2 : ¬ x = y := by omega
  rw [if_neg h1, if_neg h2]
  go_enter Tryz.func267, Tryz.ntmps267
  go_wp2_with fail
  refine (hn _ _).mono ?_; rintro e w1 ⟨rfl, rfl⟩
  go_wp2_with fail
  refine (hn _ _).mono ?_; rintro e w1 ⟨rfl, rfl⟩
  go_wp2_with fail
  go_ret
  exact ⟨rfl, rfl⟩
set_option maxRecDepth 100000 in
theorem zor (x y : Int) (b : Nat) (w : World) (h0 : w.cell? ⟨b, 0, none⟩ = some (.int .i64 x)) (h1 : w.cell? ⟨b, 1, none⟩ = some (.int .i64 y)) :
  Calls Tryz.prog 266 #[.slice (some ⟨b, 0, none⟩) 2 2] w fun e w' => e = .returned (.int .i64 (if x = 0 then y else x)) ∧ w = w' := by
 by_cases hx : x = 0
 ·subst hx
  rw [if_pos rfl]
  by_cases hy : y = 0
  ·subst hy
   go_enter Tryz.func266, Tryz.ntmps266
   go_wp2_with fail
   refine wp_loop_rounds 3 ?_
   rw [rounds_succ]
   go_wp2_with fail
   rw [rounds_succ]
   go_wp2_with fail
   rw [rounds_succ]
   go_wp2_with fail
   go_ret
   exact ⟨rfl, rfl⟩
  ·go_enter Tryz.func266, Tryz.ntmps266
   go_wp2_with fail
   refine wp_loop_rounds 3 ?_
   rw [rounds_succ]
   go_wp2_with fail
   rw [rounds_succ]
   go_wp2_with fail
   go_ret
   exact ⟨rfl, rfl⟩
 ·rw [if_neg hx]
  go_enter Tryz.func266, Tryz.ntmps266
  go_wp2_with fail
  refine wp_loop_rounds 3 ?_
  rw [rounds_succ]
  go_wp2_with fail
  go_ret
  exact ⟨rfl, rfl⟩
theorem ordI_or (a b : JItem) : (if cmpU a.id b.id = 0 then cmpN a.name b.name else cmpU a.id b.id) = ordI a b := by
 unfold cmpU cmpN ordI ltI eqK
 rcases Int.lt_trichotomy a.id b.id with h | h | h
 ·rw [if_pos h]; simp [h]
 ·rw [h]
  simp
 ·have h1 : ¬ a.id < b.id := by omega
  have h2 : ¬ a.id = b.id := by omega
  simp [h1, h2]
set_option maxRecDepth 100000 in
set_option maxHeartbeats 2000000 in
theorem zorder (a b : JItem) (va vb : Value) (w : World) : Calls Tryz.prog 233 #[.agg (a.cells va), .agg (b.cells vb)] w fun e w' => e = .returned (.int .i64 (ordI a b)) ∧ Kept [] w w' := by
 rw [← ordI_or]
 have hc := fun W => zcmpu a.id b.id W
 have hs := fun W => Tryz.strings_Compare (bs a.name) (bs b.name) W
 simp only [bs_data, cmpN_eq] at hs
 unfold JItem.cells
 have k0 := ((Kept.refl [] w).alloc (.cells #[.int .u32 a.id, .string (bs a.name), .int .i64 a.size, va] 113)).alloc (.cells #[.int .u32 b.id, .string (bs b.name), .int .i64 b.size, vb] 113)
 obtain ⟨oA, oB⟩ := own_two w #[.int .u32 a.id, .string (bs a.name), .int .i64 a.size, va] #[.int .u32 b.id, .string (bs b.name), .int .i64 b.size, vb] 113 113
 obtain ⟨a0, a1, a2, a3⟩ := oA.c4
 obtain ⟨b0, b1, b2, b3⟩ := oB.c4
 clear oA oB
 generalize cmpU a.id b.id = C at *
 generalize cmpN a.name b.name = D at *
 have ho := fun b W h0 h1 => zor C D b W h0 h1
 obtain ⟨R, hR⟩ : ∃ R, (if C = 0 then D else C) = R := ⟨_, rfl⟩
 simp only [hR] at ho ⊢
 clear hR
 generalize bs a.name = NA at *
 generalize bs b.name = NB at *
 go_enter Tryz.func233, Tryz.ntmps233
 go_wp2_with fail
 refine wp_region_held_drew (S := (fun W => W.cell? ⟨w.heap.size, 0, none⟩ = some (.int .u32 a.id) ∧ W.cell? ⟨w.heap.size, 1, none⟩ = some (.string NA) ∧ W.cell? ⟨w.heap.size + 1, 0, none⟩ = some (.int .u32 b.id) ∧ W.cell? ⟨w.heap.size + 1, 1, none⟩ = some (.string NB))) (by kernel_rfl) (by go_keep) (fun hHeld => ?_)
 refine take_at (i := 0) (d := some 5) (v := ?_) rfl rfl (by kernel_rfl) (by kernel_rfl) (by kernel_rfl) (fun _ _ _ h => h) (Or.inl ⟨by rfl, ?_⟩) (by assumption) ?_
 rotate_left
 ·(intro w hSw; (try dsimp only at hSw); go_simp; try with_reducible rfl)
 try simp only [Act.put, List.setIfInBounds_toArray, List.set_cons_zero, List.set_cons_succ]
 refine take_at (i := 1) (d := some 6) (v := ?_) rfl rfl (by kernel_rfl) (by kernel_rfl) (by kernel_rfl) (fun _ _ _ h => h) (Or.inl ⟨by rfl, ?_⟩) (by assumption) ?_
 rotate_left
 ·(intro w hSw; (try dsimp only at hSw); go_simp; try with_reducible rfl)
 try simp only [Act.put, List.setIfInBounds_toArray, List.set_cons_zero, List.set_cons_succ]
 refine take_at (i := 2) (d := some 7) (v := ?_) rfl rfl (by kernel_rfl) (by kernel_rfl) (by kernel_rfl) (fun _ _ _ h => h) (Or.inl ⟨by rfl, ?_⟩) (by assumption) ?_
 rotate_left
 ·(intro w hSw; (try dsimp only at hSw); go_simp; try with_reducible rfl)
 try simp only [Act.put, List.setIfInBounds_toArray, List.set_cons_zero, List.set_cons_succ]
 refine take_at (i := 3) (d := some 8) (v := ?_) rfl rfl (by kernel_rfl) (by kernel_rfl) (by kernel_rfl) (fun _ _ _ h => h) (Or.inl ⟨by rfl, ?_⟩) (by assumption) ?_
 rotate_left
 ·(intro w hSw; (try dsimp only at hSw); go_simp; try with_reducible rfl)
 try simp only [Act.put, List.setIfInBounds_toArray, List.set_cons_zero, List.set_cons_succ]
 refine take_at (i := 5) (d := some 10) (v := ?_) rfl rfl (by kernel_rfl) (by kernel_rfl) (by kernel_rfl) (fun _ _ _ h => h) (Or.inl ⟨by rfl, ?_⟩) (by assumption) ?_
 rotate_left
 ·(intro w hSw; (try dsimp only at hSw); go_simp; try with_reducible rfl)
 try simp only [Act.put, List.setIfInBounds_toArray, List.set_cons_zero, List.set_cons_succ]
 refine take_at (i := 6) (d := some 11) (v := ?_) rfl rfl (by kernel_rfl) (by kernel_rfl) (by kernel_rfl) (fun _ _ _ h => h) (Or.inl ⟨by rfl, ?_⟩) (by assumption) ?_
 rotate_left
 ·(intro w hSw; (try dsimp only at hSw); go_simp; try with_reducible rfl)
 try simp only [Act.put, List.setIfInBounds_toArray, List.set_cons_zero, List.set_cons_succ]
 refine take_at (i := 7) (d := some 12) (v := ?_) rfl rfl (by kernel_rfl) (by kernel_rfl) (by kernel_rfl) (fun _ _ _ h => h) (Or.inl ⟨by rfl, ?_⟩) (by assumption) ?_
 rotate_left
 ·(intro w hSw; (try dsimp only at hSw); go_simp; try with_reducible rfl)
 try simp only [Act.put, List.setIfInBounds_toArray, List.set_cons_zero, List.set_cons_succ]
 refine take_at (i := 8) (d := some 13) (v := ?_) rfl rfl (by kernel_rfl) (by kernel_rfl) (by kernel_rfl) (fun _ _ _ h => h) (Or.inl ⟨by rfl, ?_⟩) (by assumption) ?_
 rotate_left
 ·(intro w hSw; (try dsimp only at hSw); go_simp; try with_reducible rfl)
 try simp only [Act.put, List.setIfInBounds_toArray, List.set_cons_zero, List.set_cons_succ]
 refine wpAnyH_ready (rs := [4]) (by kernel_rfl) (by simp) ?_
 refine (AllReadyH.cons rfl (fun K hK => ?_) AllReadyH.nil)
 go_simp
 ((with_reducible refine (hc _).mono ?_)); rintro e w' ⟨rfl, rfl⟩
 go_wp2_with fail
 refine hK.out _ _ ?_ (fun hHeld => ?_)
 ·go_keep
 clear hK K
 try simp only [Act.put, List.setIfInBounds_toArray, List.set_cons_zero, List.set_cons_succ]
 refine wpAnyH_ready (rs := [9]) (by kernel_rfl) (by simp) ?_
 refine (AllReadyH.cons rfl (fun K hK => ?_) AllReadyH.nil)
 go_simp
 ((with_reducible refine (hs _).mono ?_)); rintro e w' ⟨rfl, rfl⟩
 go_wp2_with fail
 refine hK.out _ _ ?_ (fun hHeld => ?_)
 ·go_keep
 clear hK K
 try simp only [Act.put, List.setIfInBounds_toArray, List.set_cons_zero, List.set_cons_succ]
 refine wpAnyH_ready (rs := [10]) (by kernel_rfl) (by simp) ?_
 refine (AllReadyH.cons rfl (fun K hK => ?_) AllReadyH.nil)
 go_simp
 refine hK.out _ _ ?_ (fun hHeld => ?_)
 ·go_keep
 clear hK K
 try simp only [Act.put, List.setIfInBounds_toArray, List.set_cons_zero, List.set_cons_succ]
 refine wpAnyH_ready (rs := [11]) (by kernel_rfl) (by simp) ?_
 refine (AllReadyH.cons rfl (fun K hK => ?_) AllReadyH.nil)
 go_simp
 ((with_reducible refine (ho _ _ ?_ ?_).mono ?_))
 ·go_simp
 ·go_simp
 rintro e w' ⟨rfl, rfl⟩
 go_wp2_with fail
 refine hK.out _ _ ?_ (fun hHeld => ?_)
 ·go_keep
 clear hK K
 try simp only [Act.put, List.setIfInBounds_toArray, List.set_cons_zero, List.set_cons_succ]
 refine take_at (i := 12) (d := some 4) (v := ?_) rfl rfl (by kernel_rfl) (by kernel_rfl) (by kernel_rfl) (fun _ _ _ h => h) (Or.inl ⟨by rfl, ?_⟩) (by assumption) ?_
 rotate_left
 ·(intro w hSw; (try dsimp only at hSw); go_simp; try with_reducible rfl)
 try simp only [Act.put, List.setIfInBounds_toArray, List.set_cons_zero, List.set_cons_succ]
 refine wpAnyH_done (by kernel_rfl) ?_ _
 go_wp2_with fail
 go_ret
 exact ⟨rfl, (k0.drew.alloc _)⟩
end Go.Proofs.YtdkimcnlhmhpgaaGreat
