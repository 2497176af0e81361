/- -/
import Derived.Test.YtdkimcnlhmhpgaaGreatRows
import Derived.Test.YtdkimcnlhmhpgaaGreatShelf
import Derived.Test.YtdkimcnlhmhpgaaGreatH01
import Derived.Test.YtdkimcnlhmhpgaaGreatH04
import Derived.Test.YtdkimcnlhmhpgaaGreatH05
import Derived.Test.YtdkimcnlhmhpgaaGreatH08
import Derived.Deep.SlicePairs
import Derived.ProofKit
import Derived.OpenShut
import Derived.LoopN
import Derived.Lib.AppendZerosOnto
import Derived.Lib.Walk
import Derived.Lib.SliceRun
import Derived.Lib.ConvBytes
import Derived.Lib.SlBytesRow
import Derived.Deep.LoopGhost
import Derived.Shelf.Strings.Repeat
import Derived.Lib.Builder
set_option linter.unusedVariables false
set_option linter.unusedSimpArgs false
namespace Go.Proofs.YtdkimcnlhmhpgaaGreat
open Go.RowKit
def bel (l : List (Int × Int)) (j : Int) : Int := (l.map fun r => max 0 (min r.2 (j - r.1))).sum
theorem bel_append (a b : List (Int × Int)) (j : Int) : bel (a ++ b) j = bel a j + bel b j := by unfold bel; rw [List.map_append, List.sum_append]
theorem bel_cons (r : Int × Int) (t : List (Int × Int)) (j : Int) : bel (r :: t) j = max 0 (min r.2 (j - r.1)) + bel t j := by unfold bel; rw [List.map_cons, List.sum_cons]
theorem bel_nil (j : Int) : bel [] j = 0 := rfl
theorem bel_zero {a : Int} {l : List (Int × Int)} (h : Pl a l) (j : Int) (hj : j ≤ a) : bel l j = 0 := by
 induction l generalizing a with
 | nil => rfl
 | cons r t ih =>
  obtain ⟨h1, h2, h3, h4⟩ := h
  rw [bel_cons, ih h4 (by omega)]; omega
theorem bel_all {l : List (Int × Int)} (j : Int) (h : ∀ x ∈ l, 1 ≤ x.2 ∧ x.1 + x.2 ≤ j) : bel l j = sumLen l := by
 induction l with
 | nil => rfl
 | cons r t ih =>
  have h1 := h r List.mem_cons_self
  have e : sumLen (r :: t) = r.2 + sumLen t := by simp [sumLen]
  rw [bel_cons, ih (fun x hx => h x (List.mem_cons_of_mem _ hx)), e]; omega
theorem bel_step {a : Int} {l : List (Int × Int)} (h : Pl a l) (m : Nat) : bel l ((m : Int) + 1) = bel l m + if hasB l m = true then 1 else 0 := by
 induction l generalizing a with
 | nil => simp [bel, hasB]
 | cons r t ih =>
  obtain ⟨h1, h2, h3, h4⟩ := h
  rw [bel_cons, bel_cons, ih h4]
  have e : hasB (r :: t) m = ((decide (r.1 ≤ m) && decide ((m : Int) < r.1 + r.2)) || hasB t m) := by simp [hasB]
  rw [e]
  by_cases hin : r.1 ≤ m ∧ (m : Int) < r.1 + r.2
  ·have ht : hasB t m = false := by
    cases hx : hasB t m
    ·rfl
    ·have := (h4.ge (hasB_iff.1 hx)).1; omega
   rw [ht, decide_eq_true hin.1, decide_eq_true hin.2]
   simp
   omega
  ·have e2 : (decide (r.1 ≤ m) && decide ((m : Int) < r.1 + r.2)) = false := by simp; omega
   rw [e2, Bool.false_or]
   have : max 0 (min r.2 ((m : Int) + 1 - r.1)) = max 0 (min r.2 ((m : Int) - r.1)) := by omega
   rw [this]; omega
theorem bel_cnt (f : Nat → Bool) (m : Nat) (hm : m ≤ 8192) : bel (canon f) m = cntF f m := by
 induction m with
 | zero => rw [bel_zero (canon_pl f) _ (by omega)]; rfl
 | succ m ih =>
  have := bel_step (canon_pl f) m
  rw [canon_has f m (by omega)] at this
  rw [show ((m + 1 : Nat) : Int) = (m : Int) + 1 by omega, this, ih (by omega), cntF]
  split <;> omega
def lstep (s : List (Int × Int) × Int) (r : Int × Int) : List (Int × Int) × Int := if s.2 = 0 then s else (s.1 ++ [(r.1, min r.2 s.2)], s.2 - min r.2 s.2)
def lowTo (p : List (Int × Int)) (n : Int) (k : Nat) : List (Int × Int) × Int := (p.take k).foldl lstep ([], n)
theorem lowTo_succ (p : List (Int × Int)) (n : Int) (k : Nat) (h : k < p.length) : lowTo p n (k + 1) = lstep (lowTo p n k) p[k] := by
 unfold lowTo; rw [List.take_succ_eq_append_getElem h, List.foldl_append]; rfl
theorem lowTo_stop (p : List (Int × Int)) (n : Int) (k : Nat) (hk : k ≤ p.length) (h : (lowTo p n k).2 = 0) (j : Nat) (hj : k ≤ j) (hj2 : j ≤ p.length) : lowTo p n j = lowTo p n k := by
 induction j with
 | zero =>
   obtain rfl : k = 0 := by omega
   rfl
 | succ j ih =>
  by_cases e : k = j + 1
  ·rw [e]
  ·have h2 := ih (by omega) (by omega)
   rw [lowTo_succ p n j (by omega), h2]
   unfold lstep
   rw [if_pos h]
structure LowOk (p : List (Int × Int)) (n : Int) (k : Nat) : Prop where
 pl : Pl 0 (lowTo p n k).1
 is : ∀ j, inS (lowTo p n k).1 j ↔ inS (p.take k) j ∧ bel (p.take k) j < n
 rem : (lowTo p n k).2 = max 0 (n - sumLen (p.take k))
 low : ∀ x ∈ (lowTo p n k).1, ∃ y ∈ p.take k, x.1 = y.1 ∧ x.2 ≤ y.2
theorem low_ok {p : List (Int × Int)} (hp : Pl 0 p) (n : Int) (hn : 0 ≤ n) (k : Nat) (hk : k ≤ p.length) : LowOk p n k := by
 induction k with
 | zero => exact ⟨trivial, fun j => ⟨fun h => absurd h (inS_nil j), fun h => absurd h.1 (inS_nil j)⟩, by show n = max 0 (n - 0); omega, fun x hx => by cases hx⟩
 | succ k ih =>
  obtain ⟨h1, h2, h3, h4⟩ := ih (by omega)
  have hlt : k < p.length := by omega
  obtain ⟨p1, p2, p3⟩ := pl_at hp hlt
  have htk : p.take (k + 1) = p.take k ++ [p[k]] := List.take_succ_eq_append_getElem hlt
  have hpk := hp.take (k + 1)
  rw [htk] at hpk
  obtain ⟨g1, _, _, _, g5⟩ := hpk.init
  have hall : ∀ j, p[k].1 ≤ j → bel (p.take k) j = sumLen (p.take k) := fun j hj => bel_all j (fun x hx => ⟨(g1.mem hx).2.1, by have := g5 x hx; omega⟩)
  have hbel : ∀ j, bel (p.take (k + 1)) j = bel (p.take k) j + max 0 (min p[k].2 (j - p[k].1)) := fun j => by rw [htk, bel_append, bel_cons, bel_nil]; omega
  have hin : ∀ j, inS (p.take (k + 1)) j ↔ inS (p.take k) j ∨ (p[k].1 ≤ j ∧ j < p[k].1 + p[k].2) := fun j => by rw [htk, inS_append, inS_one]
  have hbefore : ∀ j, inS (p.take k) j → j < p[k].1 := fun j ⟨x, hx, _, hx2⟩ => by have := g5 x hx; omega
  have hsum : sumLen (p.take (k + 1)) = sumLen (p.take k) + p[k].2 := sumLen_take p k hlt
  have hs := lowTo_succ p n k hlt
  unfold lstep at hs
  by_cases h0 : (lowTo p n k).2 = 0
  ·rw [if_pos h0] at hs
   refine ⟨by rw [hs]; exact h1, fun j => ?_, by rw [hs, h3, hsum]; omega, fun x hx => ?_⟩
   ·rw [hs, h2, hin, hbel]
    constructor
    ·rintro ⟨a, b⟩
     have := hbefore j a
     exact ⟨Or.inl a, by omega⟩
    ·rintro ⟨a | a, b⟩
     ·have := hbefore j a
      exact ⟨a, by omega⟩
     ·have := hall j a.1; omega
   ·rw [hs] at hx
    obtain ⟨y, hy, e⟩ := h4 x hx
    exact ⟨y, by rw [htk]; exact List.mem_append_left _ hy, e⟩
  ·rw [if_neg h0] at hs
   generalize (lowTo p n k).2 = m at *
   generalize (lowTo p n k).1 = o at *
   refine ⟨?_, fun j => ?_, ?_, fun x hx => ?_⟩
   ·rw [hs]
    refine h1.snoc p1 (by show 1 ≤ min p[k].2 m; omega) (by show p[k].1 + min p[k].2 m ≤ 8192; omega) (fun x hx => ?_)
    obtain ⟨y, hy, e1, e2⟩ := h4 x hx
    have := g5 y hy
    show x.1 + x.2 + 1 ≤ p[k].1
    omega
   ·rw [hs]
    show inS (o ++ [(p[k].1, min p[k].2 m)]) j ↔ _
    rw [inS_append, inS_one, h2, hin, hbel]
    constructor
    ·rintro (⟨a, b⟩ | ⟨a, b⟩)
     ·have := hbefore j a
      exact ⟨Or.inl a, by omega⟩
     ·have a : p[k].1 ≤ j := a
      have b : j < p[k].1 + min p[k].2 m := b
      have := hall j a
      exact ⟨Or.inr ⟨a, by omega⟩, by omega⟩
    ·rintro ⟨a | a, b⟩
     ·have := hbefore j a
      exact Or.inl ⟨a, by omega⟩
     ·have := hall j a.1
      refine Or.inr ⟨a.1, ?_⟩
      show j < p[k].1 + min p[k].2 m
      omega
   ·rw [hs, hsum]
    show m - min p[k].2 m = _
    omega
   ·rw [hs] at hx
    rcases List.mem_append.1 hx with hx | hx
    ·obtain ⟨y, hy, e⟩ := h4 x hx
     exact ⟨y, by rw [htk]; exact List.mem_append_left _ hy, e⟩
    ·have hx : x = (p[k].1, min p[k].2 m) := by simpa using hx
     subst hx
     exact ⟨p[k], by rw [htk]; exact List.mem_append_right _ (List.mem_singleton.2 rfl), rfl, by show min p[k].2 m ≤ p[k].2; omega⟩
def lowF (l : List (Int × Int)) (n : Int) (m : Nat) : Bool := hasB l m && decide ((cntF (hasB l) m : Int) < n)
def lowestL (l : List (Int × Int)) (n : Int) : List (Int × Int) := canon (lowF l n)
theorem low_final (l : List (Int × Int)) (n : Int) (hn : 0 ≤ n) : (lowTo (plainL l) n (plainL l).length).1 = lowestL l n ∧ (lowTo (plainL l) n (plainL l).length).2 = max 0 (n - countL l) := by
 have h := low_ok (canon_pl (hasB l)) n hn (plainL l).length (Nat.le_refl _)
 constructor
 ·refine canon_eq h.pl (fun m hm => ?_)
  have h2 := h.is m
  rw [show (canon (hasB l)).take (plainL l).length = canon (hasB l) from List.take_length] at h2
  rw [show plainL l = canon (hasB l) from rfl] at *
  rw [h2, bel_cnt _ m (by omega), ← hasB_iff, canon_has _ m hm]
  unfold lowF
  simp
 ·have h3 := h.rem
  rw [show (canon (hasB l)).take (plainL l).length = canon (hasB l) from List.take_length, canon_sum] at h3
  exact h3
theorem lowTo_len (p : List (Int × Int)) (n : Int) (k : Nat) : (lowTo p n k).1.length ≤ k := by
 induction k with
 | zero => exact Nat.le_refl _
 | succ k ih =>
  by_cases h : k < p.length
  ·rw [lowTo_succ p n k h]
   unfold lstep
   split
   ·omega
   ·show (_ ++ [_]).length ≤ _
    rw [List.length_append, List.length_singleton]; omega
  ·have e : lowTo p n (k + 1) = lowTo p n k := by unfold lowTo; rw [List.take_of_length_le (by omega), List.take_of_length_le (by omega)]
   rw [e]; omega
def lowCode (l : List (Int × Int)) (n : Int) : Int := if n < 0 then 1 else if (countL l : Int) < n ∨ 16 < (lowestL l n).length then 100 else 0
def lowRes (l : List (Int × Int)) (n : Int) : List (Int × Int) := if lowCode l n = 0 then lowestL l n else []
def LowSays (l : List (Int × Int)) (n : Int) (w : World) (e : Ending) (w' : World) : Prop :=
 ∃ v, e = .returned (.tuple #[v, .int .i64 (lowCode l n)]) ∧ w'.ownsRow w.heap.size 128 2 v (lowRes l n).length (rcells (lowRes l n)) ∧ Kept [] w w'
theorem low_neg {l : List (Int × Int)} {n : Int} (h : n < 0) : lowCode l n = 1 ∧ lowRes l n = [] := by
 have e : lowCode l n = 1 := by unfold lowCode; rw [if_pos h]
 exact ⟨e, by unfold lowRes; rw [e, if_neg (by omega)]⟩
theorem low_full {l : List (Int × Int)} {n : Int} (h : 0 ≤ n) (hf : (countL l : Int) < n ∨ 16 < (lowestL l n).length) : lowCode l n = 100 ∧ lowRes l n = [] := by
 have e : lowCode l n = 100 := by unfold lowCode; rw [if_neg (by omega), if_pos hf]
 exact ⟨e, by unfold lowRes; rw [e, if_neg (by omega)]⟩
theorem low_ok2 {l : List (Int × Int)} {n : Int} (h : 0 ≤ n) (h1 : n ≤ countL l) (h2 : (lowestL l n).length ≤ 16) : lowCode l n = 0 ∧ lowRes l n = lowestL l n := by
 have e : lowCode l n = 0 := by unfold lowCode; rw [if_neg (by omega), if_neg (by omega)]
 exact ⟨e, by unfold lowRes; rw [if_pos e]⟩
set_option maxRecDepth 100000 in
set_option maxHeartbeats 4000000 in
theorem xlowest (v : Value) (l : List (Int × Int)) (n : Int) (lo hi : Nat) (w : World) (h : RunsIn w v l lo hi) (hl : l.length ≤ 1000000) (hwf : ∀ a ∈ l, WfRun a) (hn1 : -9223372036854775808 ≤ n) (hn2 : n ≤ 9223372036854775807) :
  Calls Tryz.prog 53 #[v, .int .i64 n] w (LowSays l n w) := by
 have hp := xplain v l lo hi w h hl hwf
 obtain ⟨p, c, rfl⟩ := h.shape
 by_cases hneg : n < 0
 ·obtain ⟨e1, e2⟩ := low_neg (l := l) hneg
  unfold LowSays
  rw [e1, e2]
  clear hp h hwf e1 e2
  go_enter Tryz.func53, Tryz.ntmps53
  go_wp2_with fail
  refine bodyPost_ret (v := .tuple #[.slice none 0 0, .int .i64 1]) ?_ ?_ ?_
  ·kernel_rfl
  ·rfl
  ·exact ⟨_, rfl, World.ownsRow_nil _ _ _ _, Kept.refl _ _⟩
 ·have hn0 : 0 ≤ n := by omega
  obtain ⟨i0, q0, q1, q2, q3⟩ := infoRun
  have hpl : Pl 0 (plainL l) := canon_pl _
  obtain ⟨hf1, hf2⟩ := low_final l n hn0
  have hfull := low_full (l := l) (n := n) hn0
  have hok2 := low_ok2 (l := l) (n := n) hn0
  have hlen := hpl.len0
  have hll : (lowestL l n).length ≤ 8192 := by
   have : Pl 0 (lowestL l n) := canon_pl _
   have := this.len0
   omega
  unfold GivesR at hp
  unfold LowSays
  have HP := Lib.hid hp
  have HPL := Lib.hid hpl
  have HF1 := Lib.hid hf1
  have HF2 := Lib.hid hf2
  have HFU := Lib.hid hfull
  have HOK := Lib.hid hok2
  clear hp h hwf hpl hf1 hf2 hfull hok2 hl
  generalize plainL l = x at *
  generalize lowestL l n = L at *
  generalize lowCode l n = C at *
  generalize lowRes l n = R at *
  generalize countL l = cn at *
  generalize l.length = ll at *
  go_enter Tryz.func53, Tryz.ntmps53
  go_wp2_with fail
  refine HP.out.mono ?_; rintro e w1 ⟨v1, rfl, r1, k1⟩
  obtain ⟨px, cx, rfl⟩ := own_shape r1
  have HX := Lib.hid (RunsIn.of_own r1)
  have hs1 := k1.size
  clear r1
  go_upto_block 0 with fail
  go_cut [1, 6] (fun m o wx => m = .int .i64 (max 0 (n - cn)) ∧ wx.ownsRow w1.heap.size 128 2 o L.length (rcells L) ∧ Kept [] w1 wx)
  case first =>
   go_wp2_with fail
   go_loopw [1, 6, 14] (fun m o i wr => ∃ k : Nat, k ≤ x.length ∧ i = .int .i64 k ∧ m = .int .i64 (lowTo x n k).2 ∧ wr.ownsRow w1.heap.size 128 2 o (lowTo x n k).1.length (rcells (lowTo x n k).1) ∧ Kept [] w1 wr) (fun _ _ i _ => x.length - (intOf i).toNat)
   case atStart => exact ⟨0, by omega, rfl, rfl, World.ownsRow_nil _ _ _ _, Kept.refl _ _⟩
   case round =>
    obtain ⟨k, hk, rfl, rfl, hrow, hK⟩ := hrel
    have hrem := (low_ok HPL.out n hn0 k hk).rem
    have hsum := ((HPL.out.take k).sum (by omega)).1
    have holen := lowTo_len x n k
    have hstop := fun h => lowTo_stop x n k hk h x.length hk (Nat.le_refl _)
    have hstep := fun hlt => lowTo_succ x n k hlt
    obtain ⟨O, m, hOm⟩ : ∃ O m, lowTo x n k = (O, m) := ⟨_, _, rfl⟩
    rw [hOm] at hrow hrem holen hstop hstep ⊢
    unfold lstep at hstep
    simp only at hrow hrem holen hstop hstep ⊢
    have HOM := Lib.hid hOm
    clear hOm
    obtain ⟨po, co, rfl⟩ := own_shape hrow
    by_cases hlt : k < x.length
    ·have i1 : (k : Int) < x.length := by omega
     obtain ⟨b, off, rfl, c0, c1, hb, hlc, hcm⟩ := (HX.out.kept0 hK).at_ k hlt
     have hst := hstep hlt
     obtain ⟨y1, y2, y3⟩ := pl_at HPL.out hlt
     by_cases hm0 : m = 0
     ·have h1 := HF1.out
      have h2 := HF2.out
      rw [hstop hm0] at h1 h2
      simp only at h1 h2
      subst hm0
      have HROW := Lib.hid hrow
      have H1 := Lib.hid h1
      have H2 := Lib.hid h2
      clear hrow h1 h2 hstop hstep hrem hst
      go_wp2_with fail
      go_meet
      exact ⟨by rw [← H2.out], by rw [← H1.out]; exact World.ownsRow.alloc HROW.out _, hK.alloc _⟩
     ·rw [if_neg hm0] at hst
      have r3 : O.length + 1 ≤ maxLen := by unfold maxLen; omega
      have r4 : (O.length + 1) * 16 ≤ 140737488355328 := by omega
      have HST := Lib.hid hst
      have HLT := Lib.hid hlt
      have hm1 : 0 < m := by omega
      have hm2 : m ≤ n := by omega
      have hKs := hK.size
      clear hst
      generalize x[k].1 = X0 at *
      generalize x[k].2 = Xn at *
      obtain ⟨r, hr⟩ : ∃ r, min Xn m = r := ⟨_, rfl⟩
      have hr1 : 1 ≤ r ∧ r ≤ m ∧ r ≤ Xn := by omega
      obtain ⟨hr1, hr2, hr3⟩ := hr1
      clear hstop hstep hrem
      go_wp2_with (at_builtin; go_must (refine wpList_append_own_at _ rfl (.tmp 29) (.tmp 31) 56 rfl w1.heap.size 128 i0 (.agg #[.int .i64 0, .int .i64 0]) 2 16 Tryz.underlying56 q0 q1 q2 q3 rfl (by decide) _ _ _ rfl (World.ownsRow.alloc (World.ownsRow.alloc hrow _) _) ⟨wr.heap.size + 1, 0, none⟩ 1 1 [.int .i64 X0, .int .i64 r] rfl rfl ?_ ?_ r3 r4 ?_ ?_))
      ·have hnb : ((wr.alloc (.cells #[.int .i64 X0, .int .i64 r] 128)).alloc (.cells #[.int .i64 X0, .int .i64 r] 128)).heap[wr.heap.size + 1]? = some (.cells #[.int .i64 X0, .int .i64 r] 128 (0, 0)) := by
        have := heap_alloc_new (wr.alloc (.cells #[.int .i64 X0, .int .i64 r] 128)) (.cells #[.int .i64 X0, .int .i64 r] 128)
        rw [World.size_alloc] at this
        exact this
       exact World.news_of_block hnb
      ·intro u hu; simp at hu; rcases hu with rfl | rfl <;> rfl
      ·simp; omega
      intro v6 w6 o6 gr6 _ _
      have k6 : Kept [] w1 w6 := ((hK.alloc _).alloc _).grown gr6 (fun g hg => Or.inr (World.ownsRow.lt hrow g hg).1)
      have hst2 := HST.out
      rw [hr] at hst2
      have HST2 := Lib.hid hst2
      rw [show rcells O ++ [.int .i64 X0, .int .i64 r] = rcells (O ++ [(X0, r)]) from (rcells_snoc O (X0, r)).symm] at o6
      have HO6 := Lib.hid o6
      have HLE : (O ++ [(X0, r)]).length = O.length + 1 := by simp
      clear gr6 hrow o6 hst2
      go_wp2_with fail
      go_roundw
      case rel => exact ⟨k + 1, HLT.out, by go_num, by rw [HST2.out], by rw [HST2.out]; simp only [HLE]; exact HO6.out, k6⟩
      case measure => (have hh := HLT.out; simp [intOf]; omega)
    ·obtain rfl : k = x.length := by omega
     have h1 := HF1.out
     have h2 := HF2.out
     rw [HOM.out] at h1 h2
     simp only at h1 h2
     have HROW := Lib.hid hrow
     have H1 := Lib.hid h1
     have H2 := Lib.hid h2
     clear hrow h1 h2 hstop hstep hrem
     go_wp2_with fail
     go_meet
     exact ⟨by rw [H2.out], by rw [← H1.out]; exact HROW.out, hK⟩
  case rest =>
   obtain ⟨rfl, hrow, hK⟩ := hcut
   obtain ⟨po, co, rfl⟩ := own_shape hrow
   have hKK := k1.trans hK
   have hro := ownsRow_base hrow k1.size
   have HRO := Lib.hid hro
   clear hrow hro
   obtain ⟨M, hM⟩ : ∃ M : Int, max 0 (n - cn) = M := ⟨_, rfl⟩
   rw [hM]
   have hM0 : 0 ≤ M := by omega
   by_cases hfu : (cn : Int) < n ∨ 16 < L.length
   ·obtain ⟨e1, e2⟩ := HFU.out hfu
    have E1 := Lib.hid e1
    have E2 := Lib.hid e2
    clear e1 e2
    rcases (by omega : 0 < M ∨ (M = 0 ∧ 16 < L.length)) with g1 | ⟨rfl, g1⟩
    ·clear hM hfu
     go_wp2_with fail
     refine bodyPost_ret (v := .tuple #[.slice none 0 0, .int .i64 100]) ?_ ?_ ?_
     ·kernel_rfl
     ·rfl
     ·exact ⟨_, by rw [E1.out], by rw [E2.out]; exact World.ownsRow_nil _ _ _ _, hKK⟩
    ·clear hM hfu
     have g2 : (16 : Int) < L.length := by omega
     go_wp2_with fail
     refine bodyPost_ret (v := .tuple #[.slice none 0 0, .int .i64 100]) ?_ ?_ ?_
     ·kernel_rfl
     ·rfl
     ·exact ⟨_, by rw [E1.out], by rw [E2.out]; exact World.ownsRow_nil _ _ _ _, hKK⟩
   ·obtain ⟨e1, e2⟩ := HOK.out (by omega) (by omega)
    have E1 := Lib.hid e1
    have E2 := Lib.hid e2
    obtain rfl : M = 0 := by omega
    have g2 : (L.length : Int) ≤ 16 := by omega
    clear hM hfu e1 e2
    go_wp2_with fail
    refine bodyPost_ret (v := .tuple #[.slice po L.length co, .int .i64 0]) ?_ ?_ ?_
    ·kernel_rfl
    ·rfl
    ·exact ⟨_, by rw [E1.out], by rw [E2.out]; exact HRO.out, hKK⟩
theorem runs_lit1 (w : World) (x n : Int) : RunsIn (w.alloc (.cells #[.int .i64 x, .int .i64 n] 128)) (.slice (some ⟨w.heap.size, 0, none⟩) 1 1) [(x, n)] w.heap.size (w.heap.size + 1) := by
 have hc := (Own.new w #[.int .i64 x, .int .i64 n] 128)
 refine Or.inr ⟨w.heap.size, 0, 1, rfl, fun i hi => ?_, Nat.le_refl _, Nat.lt_succ_self _, by simp, by simp, Nat.le_refl _, by unfold maxLen; omega⟩
 obtain rfl : i = 0 := by simpa using hi
 exact ⟨hc.cell 0 (by simp), hc.cell 1 (by simp)⟩
theorem run_append_none_any {P : Program} {w : World} (base : Nat) (t ty e : TypeId) (i : TypeInfo) (size : Nat) (ht : P.underlying t = some (.slice e)) (hi : P.info? e = some i)
  (v : Value) (n c : Nat) (xs : List Value) (hown : w.ownsRow base e size v n xs) :
  (Builtin.append_ #[t, t] ty #[v, .slice none 0 c]).run P w = .ok v w := by
 rcases hown.2 with ⟨rfl, rfl⟩ | ⟨g, cap, cur, rfl, _, _, hnc, _⟩
 ·simp [Builtin.append_, run_underlying ht, sizeOf, typeInfo, hi, Builtin.lenOf, Builtin.firstCells]
 ·simp [Builtin.append_, run_underlying ht, sizeOf, typeInfo, hi, Builtin.lenOf, Builtin.firstCells, hnc, storeCells]
theorem wpList_append_runs {w : World} {ops : Array Oper} {rest : List Oper} {o : Oper} {a : Act} {Q : Exit → Act → World → Prop} (hgd : o.guard = none) (s x : Operand)
  (ho : o.op = .call { callee := .builtin .append, args := #[s, x], argTypes := #[56, 56] })
  (base : Nat) (v : Value) (n : Nat) (xs : List Value) (hs : a.eval s = v) (hown : w.ownsRow base 128 2 v n xs)
  (u : Value) (l : List (Int × Int)) (lo hi : Nat) (hx : a.eval x = u) (hsrc : RunsIn w u l lo hi)
  (h63 : n + l.length ≤ maxLen) (hbytes : (n + l.length) * 16 ≤ 140737488355328) (hbase : base ≤ w.heap.size)
  (h : ∀ v' w', w'.ownsRow base 128 2 v' (n + l.length) (xs ++ rcells l) → w.grownBy w' v.ownBlock → wpList Tryz.prog ops Q rest (a.put o.dst v') w') :
  wpList Tryz.prog ops Q (o :: rest) a w := by
 obtain ⟨i0, q0, q1, q2, q3⟩ := infoRun
 obtain ⟨p, c, rfl⟩ := hsrc.shape
 cases p with
 | none =>
  have hl0 : l = [] := by
   rcases hsrc with ⟨h, _⟩ | ⟨b, off, c', e, _⟩
   ·exact h
   ·simp at e
  subst hl0
  refine wpList_plain hgd fun K hK => ?_
  have hrun := run_append_none_any (P := Tryz.prog) (w := w) base 56 o.type 128 i0 2 Tryz.underlying56 q0 v n c xs hown
  have hx' : a.eval x = .slice none 0 c := hx
  unfold Oper.wp
  simp [execOp, ho, resolve, invoke, builtin, hs, hx', hrun, Result.andThen]
  exact hK _ _ (h v w (by simpa [rcells] using hown) (grownBy_refl _ _))
 | some ad =>
  have hcell : ∀ j u, (rcells l)[j]? = some u → w.cell? (ad.add j) = some u := by
   rcases hsrc with ⟨rfl, _⟩ | ⟨b, off, c', e, h2⟩
   ·intro j u hj; simp [rcells] at hj
   ·simp at e
    obtain ⟨rfl, rfl⟩ := e
    have hh : RunsIn w (.slice (some ⟨b, off, none⟩) l.length c) l lo hi := Or.inr ⟨b, off, c, rfl, h2⟩
    intro j u hj
    rw [Go.WideShapes.add_plain]
    exact hh.cells j u hj
  refine wpList_append_own_at w hgd s x 56 ho base 128 i0 _ 2 16 Tryz.underlying56 q0 q1 q2 q3 rfl (by decide) v n xs hs hown ad l.length c (rcells l) hx (rcells_len l) hcell (rcells_one l) h63 hbytes hbase ?_
  intro v' w' h2 h3 _ _
  exact h v' w' h2 h3
def OkX (f s : Int) (a : Int × Int) : Prop := f ≤ a.1 ∧ 1 ≤ a.2 ∧ a.1 < s ∧ a.1 + a.2 ≤ s
def ApartX (a b : Int × Int) : Prop := a.1 + a.2 ≤ b.1 ∨ b.1 + b.2 ≤ a.1
theorem ApartX.symm {a b : Int × Int} (h : ApartX a b) : ApartX b a := Or.symm h
def MayX (f s : Int) (l : List (Int × Int)) : Prop := (∀ a ∈ l, OkX f s a) ∧ l.Pairwise ApartX
theorem mayX_perm {f s : Int} {l l' : List (Int × Int)} (h : l'.Perm l) : MayX f s l' ↔ MayX f s l := by
 unfold MayX
 rw [List.Perm.pairwise_iff (fun h => ApartX.symm h) h]
 constructor
 ·rintro ⟨h1, h2⟩; exact ⟨fun a ha => h1 a (h.mem_iff.2 ha), h2⟩
 ·rintro ⟨h1, h2⟩; exact ⟨fun a ha => h1 a (h.mem_iff.1 ha), h2⟩
def numL : Nat → Nat → List UInt8
 | _, 0 => []
 | n, k + 1 => UInt8.ofNat n :: numL (n / 256) k
theorem numL_len (n k : Nat) : (numL n k).length = k := by
 induction k generalizing n with
 | zero => rfl
 | succ k ih => simp [numL, ih]
theorem numL_snoc (n k : Nat) : numL n (k + 1) = numL n k ++ [UInt8.ofNat (n / 256 ^ k)] := by
 induction k generalizing n with
 | zero => simp [numL]
 | succ k ih =>
  rw [numL, ih (n / 256), numL, Nat.div_div_eq_div_mul, Nat.pow_succ, Nat.mul_comm 256]
  rfl
def bcells (l : List UInt8) : Array Value := (l.map fun b => Value.int .u8 (b.toNat : Int)).toArray
theorem bcells_size (l : List UInt8) : (bcells l).size = l.length := by simp [bcells]
theorem bcells_set (l : List UInt8) (i : Nat) (c : UInt8) : (bcells l).setIfInBounds i (.int .u8 (c.toNat : Int)) = bcells (l.set i c) := by
 apply Array.toList_inj.1
 simp [bcells]
theorem own_bytes {w : World} {b : Nat} {l : List UInt8} {t : TypeId} (h : Own w b (bcells l) t) : Lib.Bytes w b 0 (bs l) := by
 intro i hi
 rw [bs_size] at hi
 rw [Nat.zero_add, h.cell i (by rw [bcells_size]; exact hi)]
 simp only [bcells, List.getElem_toArray, List.getElem_map]
 rfl
theorem num_step {w : World} {b n k i : Nat} {t : TypeId} (ho : Own w b (bcells (numL n i ++ List.replicate (k - i) 0)) t) (hlt : i < k) :
  Own (w.setCell ⟨b, i, none⟩ (.int .u8 ((n : Int) / 2 ^ (8 * i) % 256))) b (bcells (numL n (i + 1) ++ List.replicate (k - (i + 1)) 0)) t := by
 have h := ho.set i (.int .u8 ((UInt8.ofNat (n / 256 ^ i)).toNat : Int))
 rw [bcells_set] at h
 have e1 : ((UInt8.ofNat (n / 256 ^ i)).toNat : Int) = (n : Int) / 2 ^ (8 * i) % 256 := by
  rw [UInt8.toNat_ofNat']
  have : (2 : Nat) ^ (8 * i) = 256 ^ i := by rw [Nat.pow_mul]
  rw [← this]
  simp
 have e2 : (numL n i ++ List.replicate (k - i) 0).set i (UInt8.ofNat (n / 256 ^ i)) = numL n (i + 1) ++ List.replicate (k - (i + 1)) 0 := by
  obtain ⟨d, hd⟩ : ∃ d, k - i = d + 1 := ⟨k - i - 1, by omega⟩
  have hd' : k - (i + 1) = d := by omega
  rw [hd, hd', List.replicate_succ, numL_snoc, List.set_append_right _ _ (by rw [numL_len]; exact Nat.le_refl _), numL_len, Nat.sub_self]
  simp
 rw [e1, e2] at h
 exact h
set_option maxRecDepth 100000 in
theorem packnum (n k : Nat) (w : World) (hn : n < 2 ^ 64) (hk : k ≤ 8) :
  Calls Tryz.prog 173 #[.int .u64 n, .int .i64 k] w fun e w' => e = .returned (.string (bs (numL n k))) ∧ Kept [] w w' := by
 have hi : (Tryz.prog.info? 5).map (fun i => (i.zero, i.size, i.bytes)) = some (some (.int .u8 0), 1, 1) := by kernel_rfl
 obtain ⟨i0, hi0, hz0, hz1, hz2⟩ := info_parts hi
 have hmk : ∀ w : World, (Instr.makeSlice 61 (.int .i64 k) (.int .i64 k)).run Tryz.prog w = .ok (.slice (some ⟨w.heap.size, 0, none⟩) k k) (w.alloc (.cells (bcells (List.replicate k 0)) 5)) := fun w => by
  have h := run_make (P := Tryz.prog) w 61 5 i0 (.int .u8 0) Tryz.underlying61 hi0 hz0 .i64 .i64 k k (by omega) (by omega) (by rw [hz2]; omega) (by omega)
  rw [h, hz1]
  congr 3
  apply Array.toList_inj.1
  simp [bcells, Value.cells, toList_madeCells_one]
 go_enter Tryz.func173, Tryz.ntmps173
 go_wp2_with fail
 go_loopw [11] (fun x wr => ∃ i : Nat, i ≤ k ∧ x = .int .i64 i ∧ Own wr w.heap.size (bcells (numL n i ++ List.replicate (k - i) 0)) 5 ∧ Kept [] w wr) (fun x _ => k - (intOf x).toNat)
 case atStart => exact ⟨0, Nat.zero_le _, rfl, Own.new _ _ _, (Kept.refl _ _).alloc _⟩
 case round =>
  obtain ⟨i, hik, rfl, ho, hkp⟩ := hrel
  by_cases hlt : i < k
  ·have c0 : ∃ v, wr.cell? ⟨w.heap.size, i, none⟩ = some v := ⟨_, ho.cell i (by rw [bcells_size]; simp [numL_len]; omega)⟩
   obtain ⟨v, c0⟩ := c0
   have z0 := ho.free i
   go_wp2_with fail
   go_roundw
   case rel => exact ⟨i + 1, by omega, by go_num, num_step ho hlt, hkp.setCell (Or.inr (Nat.le_refl _)) _⟩
   case measure => simp [intOf]; omega
  ·obtain rfl : i = k := by omega
   have hb := own_bytes ho
   have e : numL n i ++ List.replicate (i - i) 0 = numL n i := by rw [Nat.sub_self]; simp
   rw [e] at hb
   have hconv := Lib.run_convert_whole (P := Tryz.prog) wr 61 5 9 Tryz.underlying61 Tryz.underlying5 Tryz.underlying9 _ _ _ hb i
   rw [bs_size, numL_len] at hconv
   go_wp2_with fail
   go_ret
   exact ⟨rfl, hkp⟩
set_option maxRecDepth 100000 in
theorem packU8 (n : Nat) (w : World) (hn : n < 256) :
  Calls Tryz.prog 174 #[.int .u8 n] w fun e w' => e = .returned (.string (bs (numL n 1))) ∧ Kept [] w w' := by
 have h : ∀ w, Calls Tryz.prog 173 #[.int .u64 n, .int .i64 1] w fun e w' => e = .returned (.string (bs (numL n 1))) ∧ Kept [] w w' := fun w => packnum n 1 w (by omega) (by omega)
 go_enter Tryz.func174, Tryz.ntmps174
 go_wp2_with fail
 refine (h _).mono ?_; rintro e w1 ⟨rfl, hk⟩
 go_wp2_with fail
 go_ret
 exact ⟨rfl, hk⟩
set_option maxRecDepth 100000 in
theorem packU16 (n : Nat) (w : World) (hn : n < 65536) :
  Calls Tryz.prog 100 #[.int .u16 n] w fun e w' => e = .returned (.string (bs (numL n 2))) ∧ Kept [] w w' := by
 have h : ∀ w, Calls Tryz.prog 173 #[.int .u64 n, .int .i64 2] w fun e w' => e = .returned (.string (bs (numL n 2))) ∧ Kept [] w w' := fun w => packnum n 2 w (by omega) (by omega)
 go_enter Tryz.func100, Tryz.ntmps100
 go_wp2_with fail
 refine (h _).mono ?_; rintro e w1 ⟨rfl, hk⟩
 go_wp2_with fail
 go_ret
 exact ⟨rfl, hk⟩
set_option maxRecDepth 100000 in
theorem packU32 (n : Nat) (w : World) (hn : n < 4294967296) :
  Calls Tryz.prog 102 #[.int .u32 n] w fun e w' => e = .returned (.string (bs (numL n 4))) ∧ Kept [] w w' := by
 have h : ∀ w, Calls Tryz.prog 173 #[.int .u64 n, .int .i64 4] w fun e w' => e = .returned (.string (bs (numL n 4))) ∧ Kept [] w w' := fun w => packnum n 4 w (by omega) (by omega)
 go_enter Tryz.func102, Tryz.ntmps102
 go_wp2_with fail
 refine (h _).mono ?_; rintro e w1 ⟨rfl, hk⟩
 go_wp2_with fail
 go_ret
 exact ⟨rfl, hk⟩
set_option maxRecDepth 100000 in
theorem packU64 (n : Nat) (w : World) (hn : n < 18446744073709551616) :
  Calls Tryz.prog 229 #[.int .u64 n] w fun e w' => e = .returned (.string (bs (numL n 8))) ∧ Kept [] w w' := by
 have h : ∀ w, Calls Tryz.prog 173 #[.int .u64 n, .int .i64 8] w fun e w' => e = .returned (.string (bs (numL n 8))) ∧ Kept [] w w' := fun w => packnum n 8 w (by omega) (by omega)
 go_enter Tryz.func229, Tryz.ntmps229
 go_wp2_with fail
 refine (h _).mono ?_; rintro e w1 ⟨rfl, hk⟩
 go_wp2_with fail
 go_ret
 exact ⟨rfl, hk⟩
def textL (l : List UInt8) : List UInt8 := numL l.length 4 ++ l
theorem bs_append' (a : List UInt8) (s : ByteArray) : bs a ++ s = bs (a ++ s.data.toList) := by
 apply ByteArray.ext; apply Array.toList_inj.1; simp [bs, ByteArray.data_append]
theorem size_data (s : ByteArray) : s.data.toList.length = s.size := by simp
set_option maxRecDepth 100000 in
theorem packText (s : ByteArray) (w : World) (hs : s.size < 4294967296) :
  Calls Tryz.prog 175 #[.string s] w fun e w' => e = .returned (.string (bs (textL s.data.toList))) ∧ Kept [] w w' := by
 have h := fun w => packU32 s.size w (by omega)
 have hz : (bs (numL s.size 4)).size ≤ 4 := by rw [bs_size, numL_len]; omega
 have hfin := Lib.hid (bs_append' (numL s.size 4) s)
 go_enter Tryz.func175, Tryz.ntmps175
 go_wp2_with fail
 refine (h _).mono ?_; rintro e w1 ⟨rfl, hk⟩
 go_wp2_with fail
 go_ret
 refine ⟨?_, hk⟩
 show Ending.returned (Value.string (bs (numL s.size 4) ++ s)) = _
 rw [hfin.out, textL, size_data]
def fillL (l : List UInt8) (n : Int) : List UInt8 := l ++ List.replicate (n - l.length).toNat 0
theorem repeat_zero (k : Nat) : Lib.repeatL [0] k = List.replicate k 0 := by
 induction k with
 | zero => rfl
 | succ k ih => rw [Lib.repeatL, ih]; rfl
set_option maxRecDepth 100000 in
theorem packFill (s : ByteArray) (n : Int) (w : World) (hs : s.size ≤ 1000000) (hn : n ≤ 1000000) :
  Calls Tryz.prog 106 #[.string s, .int .i64 n] w fun e w' => e = .returned (.string (bs (fillL s.data.toList n))) ∧ Kept [] w w' := by
 by_cases hle : n ≤ s.size
 ·have e : fillL s.data.toList n = s.data.toList := by
   unfold fillL; rw [size_data, show (n - (s.size : Int)).toNat = 0 from by omega]; simp
  rw [e, bs_of]
  clear e
  go_enter Tryz.func106, Tryz.ntmps106
  go_wp2_with fail
  go_ret
  exact ⟨rfl, Kept.refl _ _⟩
 ·obtain ⟨d, hd⟩ : ∃ d : Nat, n - (s.size : Int) = d := ⟨(n - s.size).toNat, by omega⟩
  have e : fillL s.data.toList n = s.data.toList ++ List.replicate d 0 := by
   unfold fillL; rw [size_data, show (n - (s.size : Int)).toNat = d from by omega]
  have hrep : ∀ w, Calls Tryz.prog 34 #[.string { data := #[0] }, .int .i64 d] w fun e w' => e = .returned (.string (bs (List.replicate d 0))) ∧ Below w.heap.size w w' := fun w => by
   have h := Tryz.strings_Repeat { data := #[0] } d w (by omega) (by show 1 * d ≤ _; omega)
   have e : (⟨(Lib.repeatL (ByteArray.mk #[0]).data.toList d).toArray⟩ : ByteArray) = bs (List.replicate d 0) := by
    show bs (Lib.repeatL [0] d) = _
    rw [repeat_zero]
   rw [e] at h
   exact h
  have hz : (bs (List.replicate d 0)).size ≤ 1000000 := by rw [bs_size]; simp; omega
  have hfin : Hid (s ++ bs (List.replicate d 0) = bs (s.data.toList ++ List.replicate d 0)) := by
   show s ++ bs (List.replicate d 0) = _
   rw [← bs_append, bs_of]
  rw [e]
  have hlt : (s.size : Int) < n := by omega
  clear e hle
  go_enter Tryz.func106, Tryz.ntmps106
  go_wp2_with fail
  refine (hrep _).mono ?_; rintro e w1 ⟨rfl, hb⟩
  go_wp2_with fail
  go_ret
  exact ⟨by show Ending.returned (Value.string (s ++ bs (List.replicate d 0))) = _; rw [hfin.out], Kept.of_below hb⟩
end Go.Proofs.YtdkimcnlhmhpgaaGreat
