/- -/
import Derived.Test.YtdkimcnlhmhpgaaGreatG37
import Derived.ProofKit
import Derived.OpenShut
set_option linter.unusedVariables false
set_option linter.unusedSimpArgs false
namespace Go.Proofs.YtdkimcnlhmhpgaaGreat
open Go.ChangeShapes Go.WideShapes Go.ChangeAt Go.RowKit Go.Deep
section
variable {H : Type} {enc : TypeId × Value → H} {w : World} {base : Nat} {held : Bool} {r : Reach} {b0 : Nat}
end
theorem RecsIn.fits {w : World} {v : Value} {l : List JRec} {lo hi : Nat} (h : RecsIn w v l lo hi) : ∀ r ∈ l, r.fits := fun r hr => by
  obtain ⟨i, hi', rfl⟩ := List.mem_iff_getElem.1 hr
  obtain ⟨p, c, rfl⟩ := h.shape
  obtain ⟨_, _, _, _, _, _, _, _, _, _, hf, _⟩ := h.at_ i hi'
  exact hf
structure JoinSt (w0 wr : World) (v3 : Value) (ws : List (List JRec × Value)) : Prop where
  row : wr.ownsRow w0.heap.size 92 1 v3 ws.length (ws.map (·.2))
  each : ∀ x ∈ ws, (∃ lo hi, RecsIn w0 x.2 x.1 lo hi) ∧ (∀ r ∈ x.1, mayR r = true ∧ r.fits) ∧ 1 ≤ x.1.length ∧ x.1.length ≤ 30
  kept : Kept [] w0 wr
def jjoinL (ws : List (List JRec × Value)) : List UInt8 := ((ws.map (·.1)).map txL).flatten
theorem txL_len {l : List JRec} (h : ∀ r ∈ l, mayR r = true ∧ r.fits) (hl : l.length ≤ 30) : (txL l).length ≤ 6010 := by
  have := bodyL_len (l := l) (fun r hr => rec_ok (h r hr).1 (h r hr).2)
  unfold txL
  rw [List.length_append, List.length_append, numL_len, numL_len]
  omega
theorem JoinSt.len {w0 wr : World} {v3 : Value} {ws : List (List JRec × Value)} (h : JoinSt w0 wr v3 ws) : (jjoinL ws).length ≤ 6010 * ws.length := by
  have he := h.each
  clear h
  induction ws with
  | nil => simp [jjoinL]
  | cons a t ih =>
    have h1 := he a List.mem_cons_self
    have h2 := txL_len h1.2.1 h1.2.2.2
    have h3 := ih (fun x hx => he x (List.mem_cons_of_mem _ hx))
    have e : jjoinL (a :: t) = txL a.1 ++ jjoinL t := by simp [jjoinL]
    rw [e, List.length_append, List.length_cons]
    omega
theorem JoinSt.in_ {w0 wr : World} {v3 : Value} {ws : List (List JRec × Value)} (h : JoinSt w0 wr v3 ws) : TxsIn wr v3 (ws.map (·.1)) w0.heap.size wr.heap.size := by
  by_cases h0 : ws = []
  · subst h0
    obtain ⟨p, c, rfl⟩ := own_shape h.row
    exact Or.inl ⟨rfl, p, c, rfl⟩
  · have hp : 0 < ws.length := List.length_pos_iff.2 h0
    obtain ⟨g, c, rfl, g1, g2, g3, g4, g5⟩ := ownsRow_at h.row hp
    refine Or.inr ⟨g, 0, c, by rw [List.length_map], fun i hi => ?_, g1, g2, Nat.le_refl _, fun e => h0 (List.map_eq_nil_iff.1 e), by rw [List.length_map]; exact g3, g4⟩
    have hi' : i < ws.length := by simpa using hi
    obtain ⟨⟨lo, hi2, hr⟩, _⟩ := h.each _ (List.getElem_mem hi')
    refine ⟨[ws[i].2], rfl, ⟨ws[i].2, lo, hi2, rfl, by rw [List.getElem_map]; exact hr.kept0 h.kept⟩, fun j u hj => ?_⟩
    have hj0 : j = 0 := by
      have := (List.getElem?_eq_some_iff.1 hj).1
      simpa using this
    subst hj0
    rw [Nat.zero_add, Nat.mul_one]
    refine g5 _ _ ?_
    have hu : u = ws[i].2 := by simpa using hj.symm
    rw [hu]
    simp [hi']
end Go.Proofs.YtdkimcnlhmhpgaaGreat

/- -/
namespace Go.Proofs.YtdkimcnlhmhpgaaGreat
open Go.RowKit
theorem lies_of_may {f s : Int} {l : List (Int × Int)} (h : MayX f s l) : lies f s l = true := by
  have : ∀ i, i ≤ l.length → lieTo f s l i = true := by
    intro i
    induction i with
    | zero => intro _; rfl
    | succ i ih =>
      intro hi
      rw [lieTo_succ f s l i (by omega), ih (by omega), Bool.true_and, Bool.and_eq_true]
      have h1 := h.1 l[i] (List.getElem_mem _)
      unfold OkX at h1
      refine ⟨okRun_iff.2 (by omega), ?_⟩
      rw [List.all_eq_true]
      intro x hx
      obtain ⟨j, hj, rfl⟩ := List.mem_take_iff_getElem.1 hx
      have h2 := List.pairwise_iff_getElem.1 h.2 j i (by omega) (by omega) (by omega)
      exact apart_iff.2 (Or.symm h2)
  exact this _ (Nat.le_refl _)
theorem pl_mayV {a : Int} {l : List (Int × Int)} (h : Pl a l) (ha : 0 ≤ a) : MayX 0 8192 l := by
  refine ⟨fun x hx => ?_, ?_⟩
  · have := h.mem hx
    exact ⟨by omega, this.2.1, by omega, this.2.2⟩
  · induction l generalizing a with
    | nil => exact List.Pairwise.nil
    | cons r t ih =>
      obtain ⟨h1, h2, h3, h4⟩ := h
      refine List.Pairwise.cons (fun x hx => ?_) (ih h4 (by omega))
      have := h4.mem hx
      exact Or.inl (by omega)
theorem pl_mayX {f s : Int} {l : List (Int × Int)} (h : Pl 0 l) (hk : ∀ k : Nat, hasB l k = true → f ≤ (k : Int) ∧ (k : Int) < s) : MayX f s l := by
  refine ⟨fun a ha => ?_, (pl_mayV h (Int.le_refl _)).2⟩
  obtain ⟨h1, h2, h3⟩ := h.mem ha
  obtain ⟨x, hx⟩ := Int.eq_ofNat_of_zero_le h1
  have e1 := hk x (hasB_iff.2 ⟨a, ha, by omega, by omega⟩)
  obtain ⟨y, hy⟩ := Int.eq_ofNat_of_zero_le (show 0 ≤ a.1 + a.2 - 1 by omega)
  have e2 := hk y (hasB_iff.2 ⟨a, ha, by omega, by omega⟩)
  unfold OkX
  omega
theorem low_sum {l : List (Int × Int)} {n : Int} (h0 : 0 ≤ n) (h : n ≤ countL l) : sumLen (lowestL l n) = n := by
  have key : ∀ k, (cntF (lowF l n) k : Int) = min n (cntF (hasB l) k) := by
    intro k
    induction k with
    | zero => show (0 : Int) = min n 0; omega
    | succ k ih =>
      simp only [cntF]
      unfold lowF at ih ⊢
      cases hb : hasB l k
      · simp only [Bool.false_and, Bool.false_eq_true, if_false, Nat.add_zero]
        exact ih
      · simp only [Bool.true_and, if_true]
        by_cases hc : (cntF (hasB l) k : Int) < n
        · rw [decide_eq_true hc, if_pos rfl]; omega
        · rw [decide_eq_false hc, if_neg (by simp)]; omega
  have h1 := canon_sum (lowF l n)
  have h2 := key 8192
  unfold countL at h
  show sumLen (canon (lowF l n)) = n
  rw [h1]
  omega
theorem low_is {l : List (Int × Int)} {n : Int} (h : lowCode l n = 0) : 0 ≤ n ∧ n ≤ countL l ∧ (lowestL l n).length ≤ 16 := by
  unfold lowCode at h
  split at h
  · cases h
  · split at h
    · cases h
    · omega
theorem count_le (l : List (Int × Int)) : countL l ≤ 8192 := by
  unfold countL
  have : ∀ f k, cntF f k ≤ k := fun f k => by
    induction k with
    | zero => exact Nat.le_refl _
    | succ k ih => simp only [cntF]; split <;> omega
  exact this _ _
theorem need_lt {n : Nat} (h : need (n : Int) ≤ 8192) : n ≤ 1048576 := by
  unfold need at h
  split at h <;> omega
theorem need_nn (n : Int) : 0 ≤ need n := by unfold need; split <;> omega
theorem nextS_may {s : SB} (h : s.may) {u : Int} (h0 : 0 ≤ u) (h1 : u ≤ s.journal * 128) : (nextS s u).may := by
  obtain ⟨⟨a1, a2, a3, a4, a5, a6, a7, a8, a9, a10⟩, b, c⟩ := h
  exact ⟨⟨by show 1 ≤ s.seq + 1; omega, a2, a3, a4, a5, h0, h1, a8, a9, a10⟩, b, c⟩
theorem baseS_may {s : SB} (h : s.may) {t : Nat} {l : List (Int × Int)} (h0 : lowCode l (need t) = 0) (hl : ∀ k : Nat, hasB l k = true → 2 + s.journal ≤ (k : Int) ∧ (k : Int) < s.sectors) : (baseS s t (lowestL l (need t))).may := by
  obtain ⟨⟨a1, a2, a3, a4, a5, a6, a7, a8, a9, a10⟩, b, c⟩ := h
  obtain ⟨l1, l2, l3⟩ := low_is h0
  have := count_le l
  exact ⟨⟨by show 1 ≤ s.seq + 1; omega, a2, a3, a4, a5, Int.le_refl _, by show (0 : Int) ≤ s.journal * 128; omega, by show (0 : Int) ≤ (t : Int); omega, by have := need_lt (n := t) (by omega); show (t : Int) ≤ 1048576; omega, l3⟩,
    lies_of_may (pl_mayX (low_pl _ _) (fun k hk => hl k (low_has hk))), low_sum l1 l2⟩
def totC (c : JCat) : Nat := c.boxes.length + c.mans.length + c.names.length
theorem comes_len (l : List JItem) (x : JItem) (next : Int) (most : Nat) (turns : Bool) : (comesX l x next most turns).1.length ≤ l.length + 1 := by
  unfold comesX
  split
  · rename_i h
    show (setI l (idxK l x) x).length ≤ _
    rw [setI_len h.1]; omega
  · split
    · exact Nat.zero_le _
    · split
      · exact Nat.zero_le _
      · show (insI l x).length ≤ _
        rw [insI_len]; exact Nat.le_refl _
theorem goes_len (l : List JItem) (x : JItem) : (goesX l x).1.length ≤ l.length := by
  unfold goesX
  split
  · rename_i h
    have := delI_len h
    show (delI l (idxK l x)).length ≤ _
    omega
  · exact Nat.zero_le _
theorem one_tot (c : JCat) (r : JRec) : totC (oneX c r).1 ≤ totC c + 1 := by
  unfold oneX totC
  have h1 := comes_len c.boxes r.item c.nextBox 2048 false
  have h2 := comes_len c.mans r.item c.nextMan 2048 true
  have h3 := comes_len c.names r.item 0 256 false
  have h4 := goes_len c.boxes r.item
  have h5 := goes_len c.mans r.item
  have h6 := goes_len c.names r.item
  split
  · simp only; omega
  · split
    · simp only; omega
    · split
      · simp only; omega
      · split
        · simp only; omega
        · split
          · simp only; omega
          · simp only; omega
theorem recs_tot : ∀ (l : List JRec) (c : JCat), totC (recsX c l).1 ≤ totC c + l.length
  | [], c => Nat.le_refl _
  | r :: l, c => by
    unfold recsX
    rw [List.length_cons]
    split
    · split
      · have h1 := recs_tot l (oneX c r).1
        have h2 := one_tot c r
        omega
      · exact Nat.zero_le _
    · exact Nat.zero_le _
theorem apply_tot (l : List JRec) (c : JCat) : totC (applyX c l).1 ≤ totC c + l.length := by
  unfold applyX
  split
  · exact recs_tot l c
  · exact Nat.zero_le _
structure Fw (k : Nat) (d d' : DK) : Prop where
  ops : d'.ops ≤ d.ops + k
  waits : d'.waits.length ≤ d.waits.length + k
  len : d'.stand.length = d.stand.length
theorem Fw.refl (d : DK) : Fw 0 d d := ⟨Nat.le_refl _, Nat.le_refl _, rfl⟩
theorem Fw.trans {i j : Nat} {a b c : DK} (h : Fw i a b) (k : Fw j b c) : Fw (i + j) a c := ⟨by have := h.ops; have := k.ops; omega, by have := h.waits; have := k.waits; omega, k.len.trans h.len⟩
theorem Fw.mono {i j : Nat} {a b : DK} (h : Fw i a b) (hij : i ≤ j) : Fw j a b := ⟨by have := h.ops; omega, by have := h.waits; omega, h.len⟩
theorem fw_put (d : DK) (l : List (Int × Int)) (s : List UInt8) : Fw d.stand.length d (putX d l s).1 := ⟨(putX_ops d l s).1, (putX_ops d l s).2.1, (putX_ops d l s).2.2⟩
theorem fw_stepF (d : DK) : Fw 1 d (stepF d).1 := ⟨(stepF_few d).1, (stepF_few d).2.1, (stepF_few d).2.2⟩
theorem fw_appAll (n : Nat) : ∀ (d : DK) (a : Nat) (s : List UInt8), s.length ≤ n → (appAll d a s).1.stand.length = d.stand.length := by
  induction n with
  | zero =>
    intro d a s hs
    have : s = [] := List.eq_nil_of_length_eq_zero (by omega)
    subst this
    rfl
  | succ n ih =>
    intro d a s hs
    by_cases h0 : s = []
    · subst h0; rfl
    · have hl : 0 < s.length := List.length_pos_iff.2 h0
      rw [appAll_step h0]
      split
      · rw [ih _ _ _ (by rw [List.length_drop]; omega)]; exact (wNext_ops d _ _).2.2
      · exact (wNext_ops d _ _).2.2
theorem append_len (d : DK) (j u : Int) (s : List UInt8) : (appendD d j u s).1.stand.length = d.stand.length := by
  unfold appendD
  split
  · rfl
  · split
    · rfl
    · split
      · rfl
      · split
        · rfl
        · exact fw_appAll _ _ _ _ (Nat.le_refl _)
theorem fw_append (d : DK) (j u : Int) (s : List UInt8) : Fw (128 + s.length) d (appendD d j u s).1 := ⟨by have := (append_few d j u s).2; omega, by have := (append_few d j u s).1; omega, append_len _ _ _ _⟩
theorem fw_stN (m : Nat) (fs : List (DK → DK × Int)) (d : DK) (h : ∀ f ∈ fs, ∀ e, e.stand.length = d.stand.length → Fw m e (f e).1) : ∀ k, k ≤ fs.length → Fw (k * m) d (stN fs d k)
  | 0, _ => (Fw.refl d).mono (by simp)
  | k + 1, hk => by
    have h1 := fw_stN m fs d h k (by omega)
    rw [stN_succ fs d k (by omega), Nat.add_mul]
    exact (h1.trans (h _ (List.getElem_mem _) _ h1.len)).mono (by omega)
theorem fw_puts : ∀ (l : List VC) (recs : List JRec) (n : Nat), ∀ f ∈ putsD l recs, ∀ e : DK, e.stand.length = n → Fw n e (f e).1
  | [], _, _, f, hf, _, _ => by simp [putsD] at hf
  | x :: l, [], _, f, hf, _, _ => by simp [putsD] at hf
  | x :: l, r :: recs, n, f, hf, e, he => by
    unfold putsD at hf
    split at hf
    · rcases List.mem_cons.1 hf with rfl | hf
      · subst he; exact fw_put e _ _
      · exact fw_puts l recs n f hf e he
    · exact fw_puts l recs n f hf e he
end Go.Proofs.YtdkimcnlhmhpgaaGreat
