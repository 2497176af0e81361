/- Walks of layer 11 (super): the next superblock, its slot; runs copied; a reader's words. -/
import Derived.Test.YtpdmnjcklpklnaaR3
import Derived.Test.YtpdmnjcklpklnaaMem3
import Derived.Test.YtpdmnjcklpklnaaP2
import Derived.Test.YtpdmnjcklpklnaaC2
namespace Go.Proofs.Ytpdmnjcklpklnaa
open Go.RowKit
set_option linter.unusedVariables false
set_option linter.unusedSimpArgs false

theorem RunsIn.weaken {w : World} {v : Value} {l : List (Int × Int)} {lo hi lo' hi' : Nat} (h : RunsIn w v l lo hi) (h1 : lo' ≤ lo) (h2 : hi ≤ hi') (h3 : hi' ≤ w.heap.size) : RunsIn w v l lo' hi' := by
  rcases h with h | ⟨b, off, c, e1, e2, e3, e4, e5, e6, e7, e8⟩
  · exact Or.inl h
  · exact Or.inr ⟨b, off, c, e1, e2, by omega, by omega, h3, e6, e7, e8⟩
/-- the cells of runs. -/
def rcells (l : List (Int × Int)) : List Value := (l.map fun r => [Value.int .i64 r.1, Value.int .i64 r.2]).flatten
theorem rcells_len (l : List (Int × Int)) : (rcells l).length = l.length * 2 := by
  induction l with
  | nil => rfl
  | cons a l ih => simp only [rcells, List.map_cons, List.flatten_cons, List.length_append, List.length_cons, List.length_nil] at *; omega
theorem rcells_get (l : List (Int × Int)) (i : Nat) (h : i < l.length) : (rcells l)[i * 2]? = some (.int .i64 l[i].1) ∧ (rcells l)[i * 2 + 1]? = some (.int .i64 l[i].2) := by
  induction l generalizing i with
  | nil => simp at h
  | cons a l ih =>
    cases i with
    | zero => exact ⟨rfl, rfl⟩
    | succ i =>
      have e : rcells (a :: l) = Value.int .i64 a.1 :: Value.int .i64 a.2 :: rcells l := rfl
      rw [e]
      have := ih i (by simpa using h)
      have e1 : (i + 1) * 2 = i * 2 + 1 + 1 := by omega
      have e2 : (i + 1) * 2 + 1 = i * 2 + 1 + 1 + 1 := by omega
      rw [e1, List.getElem?_cons_succ, List.getElem?_cons_succ, List.getElem?_cons_succ, List.getElem?_cons_succ]
      simpa using this
theorem rcells_snoc (l : List (Int × Int)) (r : Int × Int) : rcells (l ++ [r]) = rcells l ++ [.int .i64 r.1, .int .i64 r.2] := by simp [rcells]
theorem rcells_one (l : List (Int × Int)) : ∀ u ∈ rcells l, u.oneCell' = true := by
  intro u hu
  simp only [rcells, List.mem_flatten, List.mem_map] at hu
  obtain ⟨_, ⟨r, _, rfl⟩, hu⟩ := hu
  simp at hu
  rcases hu with rfl | rfl <;> rfl
theorem RunsIn.of_own {w : World} {base : Nat} {v : Value} {n : Nat} {l : List (Int × Int)} (h : w.ownsRow base 48 2 v n (rcells l)) : RunsIn w v l base w.heap.size := by
  obtain ⟨hlen, h⟩ := h
  rw [rcells_len] at hlen
  have hn : l.length = n := by omega
  rcases h with ⟨rfl, rfl⟩ | ⟨g, cap, cur, rfl, hb, hg, hnc, hcm, hcs, htake⟩
  · exact Or.inl ⟨List.eq_nil_of_length_eq_zero hn, _, _, rfl⟩
  · by_cases h0 : n = 0
    · subst h0
      exact Or.inl ⟨List.eq_nil_of_length_eq_zero hn, _, _, rfl⟩
    · refine Or.inr ⟨g, 0, cap, by rw [hn], fun i hi => ?_, hb, lt_of_block hg, Nat.le_refl _, fun h => by rw [h] at hn; simp at hn; omega, by omega, hcm⟩
      obtain ⟨g1, g2⟩ := rcells_get l i hi
      have key : ∀ j u, (rcells l)[j]? = some u → w.cell? ⟨g, 0 + j, none⟩ = some u := fun j u hj => by
        rw [Nat.zero_add, cell_of_row w g j cur 48 (0, 0) hg]
        rw [← htake] at hj
        have hjn : j < n * 2 := by
          rcases Nat.lt_or_ge j (n * 2) with h | h
          · exact h
          · rw [List.getElem?_eq_none (by rw [List.length_take]; omega)] at hj; cases hj
        rw [List.getElem?_take_of_lt hjn] at hj
        simpa using hj
      exact ⟨key _ _ g1, key _ _ g2⟩
theorem infoRun : ∃ i, Try.prog.info? 48 = some i ∧ i.zero = some (.agg #[.int .i64 0, .int .i64 0]) ∧ i.size = 2 ∧ i.bytes = 16 := by
  have hi : (Try.prog.info? 48).map (fun i => (i.zero, i.size, i.bytes)) = some (some (.agg #[.int .i64 0, .int .i64 0]), 2, 16) := by kernel_rfl
  obtain ⟨i0, hi0, hz0, hz1, hz2⟩ := info_parts hi
  exact ⟨i0, hi0, hz0, hz1, hz2⟩
theorem RunsIn.cells {w : World} {b off n c lo hi : Nat} {l : List (Int × Int)} (h : RunsIn w (.slice (some ⟨b, off, none⟩) n c) l lo hi) : ∀ j u, (rcells l)[j]? = some u → w.cell? ⟨b, off + j, none⟩ = some u := by
  intro j u hj
  have hjl : j < (rcells l).length := by
    rcases Nat.lt_or_ge j (rcells l).length with h | h
    · exact h
    · rw [List.getElem?_eq_none h] at hj; cases hj
  rw [rcells_len] at hjl
  have hi' : j / 2 < l.length := by omega
  obtain ⟨b', off', e, c0, c1, _⟩ := h.at_ (j / 2) hi'
  injection e with e
  injection e with e1 e2 _
  subst e1 e2
  obtain ⟨g1, g2⟩ := rcells_get l (j / 2) hi'
  rcases Nat.mod_two_eq_zero_or_one j with h | h
  · have ej : j / 2 * 2 = j := by omega
    rw [ej] at c0 g1
    rw [c0, ← g1, hj]
  · have ej : j / 2 * 2 + 1 = j := by omega
    rw [Nat.add_assoc, ej] at c1
    rw [ej] at g2
    rw [c1, ← g2, hj]

set_option maxRecDepth 100000 in
theorem pclone (v : Value) (l : List (Int × Int)) (lo hi : Nat) (w : World) (h : RunsIn w v l lo hi) (hl : l.length ≤ 1000000) :
    Calls Try.prog 42 #[v] w fun e w' => (∃ v', e = .returned v' ∧ RunsIn w' v' l w.heap.size w'.heap.size) ∧ Kept [] w w' := by
  obtain ⟨i0, hi0, hz0, hz1, hz2⟩ := infoRun
  have q22 : ∀ (w : World) (a : Option Addr) (n c n' c' : Nat), (binOp .eql 23 (.slice a n c) (.slice none n' c')).run Try.prog w = .ok (.bool a.isNone) w := fun w a n c n' c' => Lib.run_eql_slice_nil w _ _ a n c n' c' Try.underlying23
  obtain ⟨p, c, rfl⟩ := h.shape
  cases p with
  | none =>
    have hl0 : l = [] := by
      rcases h with ⟨h, _⟩ | ⟨b, off, c', e, _⟩
      · exact h
      · simp at e
    subst hl0
    go_enter Try.func42, Try.ntmps42
    go_wp2_with fail
    go_ret
    exact ⟨⟨_, rfl, Or.inl ⟨rfl, _, _, rfl⟩⟩, Kept.refl _ _⟩
  | some ad =>
    have hcell : ∀ j u, (rcells l)[j]? = some u → w.cell? (ad.add j) = some u := by
      rcases h with ⟨rfl, _⟩ | ⟨b, off, c', e, h2⟩
      · intro j u hj; simp [rcells] at hj
      · simp at e
        obtain ⟨rfl, rfl⟩ := e
        have hh : RunsIn w (.slice (some ⟨b, off, none⟩) l.length c) l lo hi := Or.inr ⟨b, off, c, rfl, h2⟩
        intro j u hj
        rw [Go.WideShapes.add_plain]
        exact hh.cells j u hj
    have A := Lib.hid hcell
    clear hcell h
    have hr1 := rcells_len l
    have hr2 := rcells_one l
    have HR1 := Lib.hid hr1
    have HR2 := Lib.hid hr2
    clear hr1 hr2
    go_enter Try.func42, Try.ntmps42
    go_wp2_with (at_builtin; refine wpList_append_own _ rfl _ _ 23 rfl w.heap.size 48 i0 _ 2 16 Try.underlying23 hi0 hz0 hz1 hz2 rfl (by decide) _ _ _ rfl (World.ownsRow_made w #[] 0 (Nat.le_refl _) (Nat.zero_le _) (by simp)) ad l.length c (rcells l) rfl ?qc1 ?qc2 ?qc3 ?qc4 ?qc5 ?qc6 ?_)
    case qc1 => exact HR1.out
    case qc2 => intro j u hj; exact Lib.cell?_alloc_some _ (A.out j u hj)
    case qc3 => exact HR2.out
    case qc4 => unfold maxLen; omega
    case qc5 => omega
    case qc6 => simp
    intro v' w1 hown hgrow hnil
    have hro := RunsIn.of_own (l := l) (by simpa using hown)
    have hk1 : Kept [] w w1 := ((Kept.refl _ _).alloc _).grown hgrow (fun k hk => Or.inr (by simp [Value.ownBlock] at hk; omega))
    clear hown hgrow hnil
    go_wp2_with fail
    go_ret
    exact ⟨⟨_, rfl, hro⟩, hk1⟩

set_option maxRecDepth 100000 in
theorem pslot (n : Nat) (w : World) (hn : n < 18446744073709551616) :
    Calls Try.prog 21 #[.int .u64 n] w fun e w' => e = .returned (.int .i64 ((n % 2 : Nat) : Int)) ∧ w = w' := by
  have e1 : 0 ≤ (n : Int) % 2 := by omega
  have e2 : (n : Int) % 2 ≤ 1 := by omega
  go_enter Try.func21, Try.ntmps21
  go_wp2_with fail
  go_ret
  refine ⟨?_, rfl⟩
  show Ending.returned (Value.int .i64 ((n : Int) % 2)) = Ending.returned (Value.int .i64 ((n % 2 : Nat) : Int))
  rw [Int.natCast_emod]; rfl

set_option maxRecDepth 100000 in
theorem pnext (s : SB) (v : Value) (lo hi : Nat) (w : World) (h : RunsIn w v s.runs lo hi) (hl : s.runs.length ≤ 1000000) (hq : s.seq ≤ 9223372036854775808) :
    Calls Try.prog 20 #[.agg (s.cells v)] w fun e w' => (∃ v', e = .returned (.agg (SB.cells { s with seq := s.seq + 1 } v')) ∧ RunsIn w' v' s.runs w.heap.size w'.heap.size) ∧ Kept [] w w' := by
  have hC := fun w' (hk : Kept [] w w') => pclone v s.runs lo hi w' (h.kept0 hk) hl
  have HC := Lib.hid hC
  obtain ⟨p, c, rfl⟩ := h.shape
  obtain ⟨o1, o2⟩ := own_two w (s.cells (.slice p s.runs.length c)) (SB.cells ⟨0, 0, 0, 0, 0, []⟩ (.slice none 0 0)) 25 25
  clear hC h
  unfold SB.cells at *
  obtain ⟨c0, c1, c2, c3, c4, c5⟩ := o1.c6
  have z0 := o1.z6
  obtain ⟨p1, p2⟩ := own_two w #[.int .u64 ((s.seq : Int) + 1), .int .i64 s.sectors, .int .i64 s.journal, .int .i64 s.used, .int .i64 s.size, .slice p s.runs.length c] #[.int .u64 0, .int .i64 0, .int .i64 0, .int .i64 0, .int .i64 0, .slice none 0 0] 25 25
  go_enter Try.func20, Try.ntmps20
  go_wp2_with fail
  refine (HC.out _ (((Kept.refl _ _).alloc _).alloc _)).mono ?_; rintro e w1 ⟨⟨v', rfl, hr⟩, hk⟩
  obtain ⟨pp, cc, rfl⟩ := hr.shape
  have q1 := hk.own p1 (by simp)
  have q2 := hk.own p2 (by simp)
  have hkk : Kept [] w w1 := (((Kept.refl _ _).alloc _).alloc _).trans hk
  obtain ⟨d0, d1, d2, d3, d4, d5⟩ := q1.c6
  have z1 := q1.z6
  have z2 := q2.z6
  obtain ⟨f0, f1, f2, f3, f4, f5⟩ := q2.c6
  go_wp2_with fail
  have hS := Kept.set6 ((Kept.refl [w.heap.size, w.heap.size + 1] w1).setCell (p := ⟨w.heap.size, 5, none⟩) (Or.inl (by simp)) (.slice pp s.runs.length cc)) (b := w.heap.size + 1) (Or.inl (by simp)) (.int .u64 ((s.seq : Int) + 1)) (.int .i64 s.sectors) (.int .i64 s.journal) (.int .i64 s.used) (.int .i64 s.size) (.slice pp s.runs.length cc)
  have hr2 := hr.kept hS (fun x hx => by simp at hx ⊢; omega)
  refine bodyPost_ret (v := .agg #[.int .u64 ((s.seq : Int) + 1), .int .i64 s.sectors, .int .i64 s.journal, .int .i64 s.used, .int .i64 s.size, .slice pp s.runs.length cc]) ?_ ?_ ?_
  · exact ret_row Try.results20 rfl ((q2.other (p := ⟨w.heap.size, 5, none⟩) (by simp) _).set6 _ _ _ _ _ _) Try.underlying25 rfl (by kernel_rfl)
  · rfl
  · refine ⟨⟨_, rfl, hr2.weaken (by simp; omega) (by simp [World.setCell]) (Nat.le_refl _)⟩, ?_⟩
    exact hkk.call hS (fun x hx => by simp at hx; omega)

set_option maxRecDepth 100000 in
theorem pword (b : Nat) (l : List UInt8) (w : World) (hR : RdAt w b l 0) (h4 : 4 ≤ l.length) :
    Calls Try.prog 35 #[.agg #[.pointer (some ⟨b, 0, none⟩)]] w fun e w' => e = .returned (.int .i64 (leL (l.take 4))) ∧ RdAt w' b (l.drop 4) 0 ∧ Kept [b] w w' := by
  have hu := fun w h => rdU32 b l 0 w h
  have e : numR 4 l 0 = (leL (l.take 4), l.drop 4, 0) := by
    unfold numR takeR
    rw [if_neg (by simp), if_neg (by omega), if_neg (by omega)]; rfl
  rw [e] at hu
  have hb := leL_lt (l.take 4)
  rw [List.length_take, Nat.min_eq_left h4] at hb
  have hb' : (leL (l.take 4) : Int) < 4294967296 := by omega
  have hR2 := Own.alloc hR (.cells #[.pointer (some ⟨b, 0, none⟩)] 62)
  clear e hb
  generalize leL (l.take 4) = n at *
  go_enter Try.func35, Try.ntmps35
  go_wp2_with fail
  refine (hu _ hR2).mono ?_; rintro e w1 ⟨rfl, hR1, hk1⟩
  go_wp2_with fail
  go_ret
  exact ⟨rfl, hR1, ((Kept.refl _ _).alloc _).trans hk1⟩

set_option maxRecDepth 100000 in
theorem phalf (b : Nat) (l : List UInt8) (w : World) (hR : RdAt w b l 0) (h4 : 2 ≤ l.length) :
    Calls Try.prog 36 #[.agg #[.pointer (some ⟨b, 0, none⟩)]] w fun e w' => e = .returned (.int .i64 (leL (l.take 2))) ∧ RdAt w' b (l.drop 2) 0 ∧ Kept [b] w w' := by
  have hu := fun w h => rdU16 b l 0 w h
  have e : numR 2 l 0 = (leL (l.take 2), l.drop 2, 0) := by
    unfold numR takeR
    rw [if_neg (by simp), if_neg (by omega), if_neg (by omega)]; rfl
  rw [e] at hu
  have hb := leL_lt (l.take 2)
  rw [List.length_take, Nat.min_eq_left h4] at hb
  have hb' : (leL (l.take 2) : Int) < 65536 := by omega
  have hR2 := Own.alloc hR (.cells #[.pointer (some ⟨b, 0, none⟩)] 62)
  clear e hb
  generalize leL (l.take 2) = n at *
  go_enter Try.func36, Try.ntmps36
  go_wp2_with fail
  refine (hu _ hR2).mono ?_; rintro e w1 ⟨rfl, hR1, hk1⟩
  go_wp2_with fail
  go_ret
  exact ⟨rfl, hR1, ((Kept.refl _ _).alloc _).trans hk1⟩
end Go.Proofs.Ytpdmnjcklpklnaa
