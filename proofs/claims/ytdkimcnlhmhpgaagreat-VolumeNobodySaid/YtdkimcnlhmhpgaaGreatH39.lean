/- -/
import Derived.Test.YtdkimcnlhmhpgaaGreatH05
import Derived.Test.YtdkimcnlhmhpgaaGreatH09
import Derived.Test.YtdkimcnlhmhpgaaGreatH10
import Derived.Test.YtdkimcnlhmhpgaaGreatH14
import Derived.Test.YtdkimcnlhmhpgaaGreatH15
import Derived.Test.YtdkimcnlhmhpgaaGreatH34
import Derived.Test.YtdkimcnlhmhpgaaGreatH38
import Derived.Deep.RegionWith
import Derived.BigRegion
import Derived.ProofKit
import Derived.OpenShut
import Derived.Deep.QuietTactic
import Derived.BigQuiet
import Derived.WalkMore
import Derived.ScopeJumps
import Derived.Outline
import Derived.Deep.RegionHeld3
set_option linter.unusedVariables false
set_option linter.unusedSimpArgs false
namespace Go.Proofs.YtdkimcnlhmhpgaaGreat
open Go.RowKit
theorem put_get {d : DK} (h : Quiet d) (l : List (Int × Int)) (s : List UInt8) (h0 : (putX d l s).2 = 0) : getCode (putX d l s).1 l s.length = 0 ∧ getX (putX d l s).1 l s.length = s ∧ QS (fun k => k ∉ secsL l) d (putX d l s).1 := by
 have hq := (quiet_putX (P := fun k => k ∉ secsL l) h l s (fun k hk => hk)).1
 have hX : FitX l d.stand.length s.length := by
  apply Classical.byContradiction
  intro hh
  unfold putX at h0
  rw [if_neg hh] at h0
  cases h0
 have hlt : ∀ a ∈ secsL l, a < d.stand.length := fun a ha => by have := (hX.lt ha).1; omega
 obtain ⟨d', e1, e2, e3, e4, e5, eo, ew, e6, e7⟩ := put_ok (secsL l) d s h.fit h.down h.fuse hlt (secsL_nodup hX.2.2.1)
 have hput : putX d l s = (d', 0) := by
  unfold putX
  rw [if_pos hX, if_neg (by rw [h.down]; simp), e1]
 rw [hput] at hq ⊢
 have hgc : getCode d' l s.length = 0 := by
  unfold getCode
  rw [e2, if_pos hX, if_neg (by rw [e3]; simp)]
 refine ⟨hgc, ?_, hq⟩
 unfold getX
 rw [if_pos hgc, Int.toNat_natCast, getL_chunks (secsL l) d' s (fun i h => e7 i h)]
 refine chunksL_take _ _ ?_
 have : ((secsL l).length : Int) = need (s.length : Int) := hX.secs
 unfold need at this
 split at this <;> omega
theorem holds_put {nm data : List UInt8} {v : VS} {R : List (Int × Int)} (hq : Quiet v.d) (hd : v.dead = false) (hR : Pl 0 R) (hRm : ∀ k, hasB R k = true → hasB (roomX v) k = true) (hj : 1 ≤ v.s.journal) {c : JCat} (hcm : mayC c) {x : JItem} (hx : c.names.find? (nameP nm) = some x) (hxr : x.runs = R) (hxs : x.size = data.length)
  (fs : List (DK → DK × Int)) (g : VS → VS × Int)
  (hf : (∀ f ∈ fs, ∀ d, Quiet d → QR (fun k => k ∈ secsL R) d (f d)) ∧ (∀ u : VS, u.s = v.s → Quiet u.d → QV (fun k => k ∈ secsL R) u (g u)))
  (hg : ∀ u : VS, u.s = v.s → (g u).2 = 0 → (g u).1.c = c ∧ (g u).1.s.journal = u.s.journal)
  (h0 : (tellX (chainV (onD (fun d => putX d R data) :: (fs.map onD ++ [g])) v)).2 = 0) :
  Holds nm data (tellX (chainV (onD (fun d => putX d R data) :: (fs.map onD ++ [g])) v)).1 := by
 have e : chainV (onD (fun d => putX d R data) :: (fs.map onD ++ [g])) v = if (onD (fun d => putX d R data) v).2 = 0 then chainV (fs.map onD ++ [g]) (onD (fun d => putX d R data) v).1 else onD (fun d => putX d R data) v := rfl
 rw [e] at h0 ⊢
 by_cases h1 : (onD (fun d => putX d R data) v).2 = 0
 ·rw [if_pos h1] at h0 ⊢
  obtain ⟨p1, p2, p3⟩ := put_get hq R data h1
  have hu : Quiet (onD (fun d => putX d R data) v).1.d := p3.quiet
  have hqa := quiet_all fs g (onD (fun d => putX d R data) v).1 hf.1 (fun u u1 u2 u3 u4 => hf.2 u u1 u4) hu
  obtain ⟨t1, t2, t3, t4, t5⟩ := tell_qv hqa (by exact hd)
  obtain ⟨e1, e2⟩ := all_ok (v := (onD (fun d => putX d R data) v).1) hg (by rw [← t5]; exact h0)
  obtain ⟨g1, g2⟩ := getCode_qs hu t2 R data.length p1 (fun i hi => hi)
  refine ⟨t2.quiet, t1, by rw [t3, e1]; exact hcm, x, by rw [t3, e1]; exact hx, by rw [hxr, hxs]; exact g1, by rw [hxr, hxs]; exact g2.trans p2, by rw [hxr]; exact pl_low hR, fun k hk => ?_⟩
  rw [hxr] at hk
  have h2 := (room_has (hRm k (secs_hasB (pl_low hR) hk))).1
  rw [t4, e2]
  show 2 ≤ k ∧ 2 + v.s.journal ≤ (k : Int)
  omega
 ·rw [if_neg h1] at h0
  exact absurd h0 h1
open Classical in
theorem holds_first {nm data : List UInt8} {v : VS} (hq : Quiet v.d) (hd : v.dead = false) (hc : v.c = catE) (hj : 1 ≤ v.s.journal) (h0 : (changeX v [⟨3, 0, nm, data⟩]).2 = 0) : Holds nm data (changeX v [⟨3, 0, nm, data⟩]).1 := by
 have hp : planAt (roomX v) [⟨3, 0, nm, data⟩] 1 = ([⟨3, 0, nm, data.length, lowestL (roomX v) (need data.length)⟩], minusL (roomX v) (lowestL (roomX v) (need data.length))) := rfl
 unfold changeX at h0 ⊢
 rw [show ([⟨3, 0, nm, data⟩] : List VC).length = 1 from rfl, hp] at h0 ⊢
 simp only at h0 ⊢
 generalize hR : lowestL (roomX v) (need data.length) = R at *
 have hRp : Pl 0 R := by rw [← hR]; exact low_pl _ _
 have hRm : ∀ k, hasB R k = true → hasB (roomX v) k = true := fun k hk => by rw [← hR] at hk; exact low_has hk
 rw [if_neg (by rw [hd]; simp)] at h0 ⊢
 by_cases c1 : wrongX v.c [⟨3, 0, nm, data⟩] ≠ 0
 ·rw [if_pos c1] at h0
  exact absurd h0 c1
 ·rw [if_neg c1] at h0 ⊢
  by_cases c2 : ¬ planOk (roomX v) [⟨3, 0, nm, data⟩]
  ·rw [if_pos c2] at h0; cases h0
  ·rw [if_neg c2] at h0 ⊢
   by_cases c3 : (applyX v.c [⟨3, 0, nm, data.length, R⟩]).2 ≠ 0
   ·rw [if_pos c3] at h0
    exact absurd h0 c3
   ·rw [if_neg c3] at h0 ⊢
    have c3 : (applyX v.c [⟨3, 0, nm, data.length, R⟩]).2 = 0 := by simpa using c3
    by_cases c4 : txCode [⟨3, 0, nm, data.length, R⟩] ≠ 0
    ·rw [if_pos c4] at h0
     exact absurd h0 c4
    ·rw [if_neg c4] at h0 ⊢
     have hmc : mayC v.c := by
      apply Classical.byContradiction
      intro hh
      unfold applyX at c3
      rw [if_neg hh] at c3
      cases c3
     have hap : applyX v.c [⟨3, 0, nm, data.length, R⟩] = recsX v.c [⟨3, 0, nm, data.length, R⟩] := by unfold applyX; rw [if_pos hmc]
     have hcm : mayC (applyX v.c [⟨3, 0, nm, data.length, R⟩]).1 := by
      rw [hap] at c3 ⊢
      exact recs_may hmc (fun r hr => by obtain rfl := List.mem_singleton.1 hr; exact Int.le_refl _) c3
     have hfind : (applyX v.c [⟨3, 0, nm, data.length, R⟩]).1.names.find? (nameP nm) = some ⟨0, nm, data.length, R⟩ := by
      rw [hap, hc] at c3 ⊢
      unfold recsX at c3 ⊢
      by_cases m1 : mayR ⟨3, 0, nm, data.length, R⟩ = true
      ·rw [if_pos m1] at c3 ⊢
       by_cases m2 : (oneX catE ⟨3, 0, nm, data.length, R⟩).2 = 0
       ·rw [if_pos m2]
        show (comesX [] (JRec.item ⟨3, 0, nm, data.length, R⟩) 0 256 false).1.find? _ = _
        unfold comesX
        rw [if_neg (by simp), if_neg (by
         rintro (hh | hh)
         ·obtain ⟨y, hy, _⟩ := hasK_iff.1 hh
          cases hy
         ·exact absurd hh (by show ¬ (0 : Int) < 0; decide)), if_neg (by simp)]
        unfold insI
        simp [nameP, JRec.item]
       ·rw [if_neg m2] at c3; exact absurd c3 m2
      ·rw [if_neg m1] at c3; cases c3
     generalize applyX v.c [⟨3, 0, nm, data.length, R⟩] = AP at *
     generalize txOut [⟨3, 0, nm, data.length, R⟩] = TX at *
     have hpx : putsX [⟨3, 0, nm, data⟩] [⟨3, 0, nm, data.length, R⟩] = [onD (fun d => putX d R data)] := rfl
     rw [hpx] at h0 ⊢
     by_cases c5 : (TX.length : Int) ≤ v.s.journal * 128 - v.s.used
     ·rw [if_pos c5] at h0 ⊢
      have e : [onD (fun d => putX d R data)] ++ [onD stepF, appendX AP.1 TX] = onD (fun d => putX d R data) :: ([stepF].map onD ++ [appendX AP.1 TX]) := rfl
      rw [e] at h0 ⊢
      refine holds_put hq hd hRp hRm hj hcm hfind rfl rfl [stepF] _ ⟨fun f hf d hd => ?_, fun u u1 hu => ?_⟩ (fun u u1 h0 => appendX_ok h0) h0
      ·obtain rfl := List.mem_singleton.1 hf
       exact quiet_stepF hd
      ·refine quiet_appendX _ _ u (fun k hk => ?_) hu
       have h2 := (room_has (hRm k (secs_hasB (pl_low hRp) hk))).1
       rw [u1]
       omega
     ·rw [if_neg c5] at h0 ⊢
      by_cases c6 : (putOut AP.1).2 ≠ 0
      ·rw [if_pos c6] at h0
       exact absurd h0 c6
      ·rw [if_neg c6] at h0 ⊢
       by_cases c7 : lowCode (minusL (roomX v) R) (need (putOut AP.1).1.length) ≠ 0
       ·rw [if_pos c7] at h0; cases h0
       ·rw [if_neg c7] at h0 ⊢
        have e : [onD (fun d => putX d R data)] ++ [settleX AP.1 (putOut AP.1).1 (lowestL (minusL (roomX v) R) (need (putOut AP.1).1.length))] = onD (fun d => putX d R data) :: (([] : List (DK → DK × Int)).map onD ++ [settleX AP.1 (putOut AP.1).1 (lowestL (minusL (roomX v) R) (need (putOut AP.1).1.length))]) := rfl
        rw [e] at h0 ⊢
        refine holds_put hq hd hRp hRm hj hcm hfind rfl rfl [] _ ⟨fun f hf => by simp at hf, fun u u1 hu => ?_⟩ (fun u u1 h0 => settleX_ok h0) h0
        refine quiet_settleX _ _ _ u (fun k hk => ?_) hu
        have h2 := (room_has (hRm k (secs_hasB (pl_low hRp) hk))).1
        refine ⟨by omega, fun hm => ?_⟩
        have h3 := (minus_has (low_has (secs_hasB (pl_low (low_pl _ _)) hm))).2.1
        rw [secs_hasB (pl_low hRp) hk] at h3
        cases h3
theorem app_ok (n : Nat) : ∀ (d : DK) (a : Nat) (s : List UInt8), s.length ≤ n → Fit d → d.down = false → d.fuse < 0 → a + (s.length + 127) / 128 ≤ d.stand.length →
  ∃ d', appAll d a s = (d', 0) ∧ d'.stand = d.stand ∧ d'.down = false ∧ d'.fuse = d.fuse ∧ Fit d' ∧ (∀ i, i < a → seen d' i = seen d i) ∧ ∀ i, 128 * i < s.length → seen d' (a + i) = chunk (s.drop (128 * i)) := by
 induction n with
 | zero =>
  intro d a s hs hf hd hfu ha
  have : s = [] := List.eq_nil_of_length_eq_zero (by omega)
  subst this
  exact ⟨d, rfl, rfl, hd, rfl, hf, fun _ _ => rfl, fun i hi => by simp at hi⟩
 | succ n ih =>
  intro d a s hs hf hd hfu ha
  by_cases h0 : s = []
  ·subst h0
   exact ⟨d, rfl, rfl, hd, rfl, hf, fun _ _ => rfl, fun i hi => by simp at hi⟩
  ·have hl : 0 < s.length := List.length_pos_iff.2 h0
   obtain ⟨hc, hn⟩ := write_ok (s := s) hd hfu (by omega : a < d.stand.length)
   have hdn : (writeD d a (chunk s)).down = false := by
    show (if d.fuse = 0 then true else d.down) = false
    rw [if_neg (by omega), hd]
   have hfn : (writeD d a (chunk s)).fuse = d.fuse := by
    show (if 0 < d.fuse then d.fuse - 1 else d.fuse) = d.fuse
    rw [if_neg (by omega)]
   have hfit : Fit (writeD d a (chunk s)) := by rw [← hn]; exact hf.write _ _
   obtain ⟨d', e1, e2, e3, e4, e5, e6, e7⟩ := ih (writeD d a (chunk s)) (a + 1) (s.drop 128) (by rw [List.length_drop]; omega) hfit hdn (by rw [hfn]; exact hfu) (by rw [List.length_drop]; show a + 1 + _ ≤ d.stand.length; omega)
   refine ⟨d', ?_, e2, e3, e4.trans hfn, e5, fun i hi => ?_, fun i hi => ?_⟩
   ·rw [appAll_step h0, if_pos hc, hn, e1]
   ·rw [e6 i (by omega), seen_write, if_neg (by omega)]
   ·cases i with
    | zero =>
     rw [Nat.add_zero, e6 a (by omega), seen_write, if_pos rfl]; rfl
    | succ i =>
     have := e7 i (by rw [List.length_drop]; omega)
     rw [List.drop_drop, show 128 + 128 * i = 128 * (i + 1) from by omega, show a + 1 + i = a + (i + 1) from by omega] at this
     exact this
theorem lies_of_may {f s : Int} {l : List (Int × Int)} (h : MayX f s l) : lies f s l = true := by
 have : ∀ i, i ≤ l.length → lieTo f s l i = true := by
  intro i
  induction i with
  | zero => intro _; rfl
  | succ i ih =>
   intro hi
   rw [lieTo_succ f s l i (by omega), ih (by omega), Bool.true_and, Bool.and_eq_true]
   have h1 := h.1 l[i] (List.getElem_mem _)
   unfold OkX at h1
   refine ⟨okRun_iff.2 (by omega), ?_⟩
   rw [List.all_eq_true]
   intro x hx
   obtain ⟨j, hj, rfl⟩ := List.mem_take_iff_getElem.1 hx
   have h2 := List.pairwise_iff_getElem.1 h.2 j i (by omega) (by omega) (by omega)
   exact apart_iff.2 (Or.symm h2)
 exact this _ (Nat.le_refl _)
theorem pl_mayV {a : Int} {l : List (Int × Int)} (h : Pl a l) (ha : 0 ≤ a) : MayX 0 8192 l := by
 refine ⟨fun x hx => ?_, ?_⟩
 ·have := h.mem hx
  exact ⟨by omega, this.2.1, by omega, this.2.2⟩
 ·induction l generalizing a with
  | nil => exact List.Pairwise.nil
  | cons r t ih =>
   obtain ⟨h1, h2, h3, h4⟩ := h
   refine List.Pairwise.cons (fun x hx => ?_) (ih h4 (by omega))
   have := h4.mem hx
   exact Or.inl (by omega)
theorem pl_mayX {f s : Int} {l : List (Int × Int)} (h : Pl 0 l) (hk : ∀ k : Nat, hasB l k = true → f ≤ (k : Int) ∧ (k : Int) < s) : MayX f s l := by
 refine ⟨fun a ha => ?_, (pl_mayV h (Int.le_refl _)).2⟩
 obtain ⟨h1, h2, h3⟩ := h.mem ha
 obtain ⟨x, hx⟩ := Int.eq_ofNat_of_zero_le h1
 have e1 := hk x (hasB_iff.2 ⟨a, ha, by omega, by omega⟩)
 obtain ⟨y, hy⟩ := Int.eq_ofNat_of_zero_le (show 0 ≤ a.1 + a.2 - 1 by omega)
 have e2 := hk y (hasB_iff.2 ⟨a, ha, by omega, by omega⟩)
 unfold OkX
 omega
theorem low_sum {l : List (Int × Int)} {n : Int} (h0 : 0 ≤ n) (h : n ≤ countL l) : sumLen (lowestL l n) = n := by
 have key : ∀ k, (cntF (lowF l n) k : Int) = min n (cntF (hasB l) k) := by
  intro k
  induction k with
  | zero => show (0 : Int) = min n 0; omega
  | succ k ih =>
   simp only [cntF]
   unfold lowF at ih ⊢
   cases hb : hasB l k
   ·simp only [Bool.false_and, Bool.false_eq_true, if_false, Nat.add_zero]
    exact ih
   ·simp only [Bool.true_and, if_true]
    by_cases hc : (cntF (hasB l) k : Int) < n
    ·rw [decide_eq_true hc, if_pos rfl]; omega
    ·rw [decide_eq_false hc, if_neg (by simp)]; omega
 have h1 := canon_sum (lowF l n)
 have h2 := key 8192
 unfold countL at h
 show sumLen (canon (lowF l n)) = n
 rw [h1]
 omega
theorem low_is {l : List (Int × Int)} {n : Int} (h : lowCode l n = 0) : 0 ≤ n ∧ n ≤ countL l ∧ (lowestL l n).length ≤ 16 := by
 unfold lowCode at h
 split at h
 ·cases h
 ·split at h
  ·cases h
  ·omega
theorem count_le (l : List (Int × Int)) : countL l ≤ 8192 := by
 unfold countL
 have : ∀ f k, cntF f k ≤ k := fun f k => by
  induction k with
  | zero => exact Nat.le_refl _
  | succ k ih => simp only [cntF]; split <;> omega
 exact this _ _
theorem need_lt {n : Nat} (h : need (n : Int) ≤ 8192) : n ≤ 1048576 := by
 unfold need at h
 split at h <;> omega
theorem need_nn (n : Int) : 0 ≤ need n := by unfold need; split <;> omega
theorem nextS_may {s : SB} (h : s.may) {u : Int} (h0 : 0 ≤ u) (h1 : u ≤ s.journal * 128) : (nextS s u).may := by
 obtain ⟨⟨a1, a2, a3, a4, a5, a6, a7, a8, a9, a10⟩, b, c⟩ := h
 exact ⟨⟨by show 1 ≤ s.seq + 1; omega, a2, a3, a4, a5, h0, h1, a8, a9, a10⟩, b, c⟩
theorem baseS_may {s : SB} (h : s.may) {t : Nat} {l : List (Int × Int)} (h0 : lowCode l (need t) = 0) (hl : ∀ k : Nat, hasB l k = true → 2 + s.journal ≤ (k : Int) ∧ (k : Int) < s.sectors) : (baseS s t (lowestL l (need t))).may := by
 obtain ⟨⟨a1, a2, a3, a4, a5, a6, a7, a8, a9, a10⟩, b, c⟩ := h
 obtain ⟨l1, l2, l3⟩ := low_is h0
 have := count_le l
 exact ⟨⟨by show 1 ≤ s.seq + 1; omega, a2, a3, a4, a5, Int.le_refl _, by show (0 : Int) ≤ s.journal * 128; omega, by show (0 : Int) ≤ (t : Int); omega, by have := need_lt (n := t) (by omega); show (t : Int) ≤ 1048576; omega, l3⟩,
  lies_of_may (pl_mayX (low_pl _ _) (fun k hk => hl k (low_has hk))), low_sum l1 l2⟩
def totC (c : JCat) : Nat := c.boxes.length + c.mans.length + c.names.length
theorem comes_len (l : List JItem) (x : JItem) (next : Int) (most : Nat) (turns : Bool) : (comesX l x next most turns).1.length ≤ l.length + 1 := by
 unfold comesX
 split
 ·rename_i h
  show (setI l (idxK l x) x).length ≤ _
  rw [setI_len h.1]; omega
 ·split
  ·exact Nat.zero_le _
  ·split
   ·exact Nat.zero_le _
   ·show (insI l x).length ≤ _
    rw [insI_len]; exact Nat.le_refl _
theorem goes_len (l : List JItem) (x : JItem) : (goesX l x).1.length ≤ l.length := by
 unfold goesX
 split
 ·rename_i h
  have := delI_len h
  show (delI l (idxK l x)).length ≤ _
  omega
 ·exact Nat.zero_le _
theorem one_tot (c : JCat) (r : JRec) : totC (oneX c r).1 ≤ totC c + 1 := by
 unfold oneX totC
 have h1 := comes_len c.boxes r.item c.nextBox 2048 false
 have h2 := comes_len c.mans r.item c.nextMan 2048 true
 have h3 := comes_len c.names r.item 0 256 false
 have h4 := goes_len c.boxes r.item
 have h5 := goes_len c.mans r.item
 have h6 := goes_len c.names r.item
 split
 ·simp only; omega
 ·split
  ·simp only; omega
  ·split
   ·simp only; omega
   ·split
    ·simp only; omega
    ·split
     ·simp only; omega
     ·simp only; omega
theorem recs_tot : ∀ (l : List JRec) (c : JCat), totC (recsX c l).1 ≤ totC c + l.length
 | [], c => Nat.le_refl _
 | r :: l, c => by
  unfold recsX
  rw [List.length_cons]
  split
  ·split
   ·have h1 := recs_tot l (oneX c r).1
    have h2 := one_tot c r
    omega
   ·exact Nat.zero_le _
  ·exact Nat.zero_le _
theorem apply_tot (l : List JRec) (c : JCat) : totC (applyX c l).1 ≤ totC c + l.length := by
 unfold applyX
 split
 ·exact recs_tot l c
 ·exact Nat.zero_le _
structure Fw (k : Nat) (d d' : DK) : Prop where
 ops : d'.ops ≤ d.ops + k
 waits : d'.waits.length ≤ d.waits.length + k
 len : d'.stand.length = d.stand.length
theorem Fw.refl (d : DK) : Fw 0 d d := ⟨Nat.le_refl _, Nat.le_refl _, rfl⟩
theorem Fw.trans {i j : Nat} {a b c : DK} (h : Fw i a b) (k : Fw j b c) : Fw (i + j) a c := ⟨by have := h.ops; have := k.ops; omega, by have := h.waits; have := k.waits; omega, k.len.trans h.len⟩
theorem Fw.mono {i j : Nat} {a b : DK} (h : Fw i a b) (hij : i ≤ j) : Fw j a b := ⟨by have := h.ops; omega, by have := h.waits; omega, h.len⟩
theorem fw_put (d : DK) (l : List (Int × Int)) (s : List UInt8) : Fw d.stand.length d (putX d l s).1 := ⟨(putX_ops d l s).1, (putX_ops d l s).2.1, (putX_ops d l s).2.2⟩
theorem fw_stepF (d : DK) : Fw 1 d (stepF d).1 := ⟨(stepF_few d).1, (stepF_few d).2.1, (stepF_few d).2.2⟩
theorem fw_lay (s : SB) (d : DK) : Fw 2 d (layD s d).1 := ⟨(layD_few s d).1, (layD_few s d).2.1, (layD_few s d).2.2⟩
theorem fw_appAll (n : Nat) : ∀ (d : DK) (a : Nat) (s : List UInt8), s.length ≤ n → (appAll d a s).1.stand.length = d.stand.length := by
 induction n with
 | zero =>
  intro d a s hs
  have : s = [] := List.eq_nil_of_length_eq_zero (by omega)
  subst this
  rfl
 | succ n ih =>
  intro d a s hs
  by_cases h0 : s = []
  ·subst h0; rfl
  ·have hl : 0 < s.length := List.length_pos_iff.2 h0
   rw [appAll_step h0]
   split
   ·rw [ih _ _ _ (by rw [List.length_drop]; omega)]; exact (wNext_ops d _ _).2.2
   ·exact (wNext_ops d _ _).2.2
theorem append_len (d : DK) (j u : Int) (s : List UInt8) : (appendD d j u s).1.stand.length = d.stand.length := by
 unfold appendD
 split
 ·rfl
 ·split
  ·rfl
  ·split
   ·rfl
   ·split
    ·rfl
    ·exact fw_appAll _ _ _ _ (Nat.le_refl _)
theorem fw_append (d : DK) (j u : Int) (s : List UInt8) : Fw (128 + s.length) d (appendD d j u s).1 := ⟨by have := (append_few d j u s).2; omega, by have := (append_few d j u s).1; omega, append_len _ _ _ _⟩
theorem app_few2 (n : Nat) : ∀ (d : DK) (a : Nat) (s : List UInt8), s.length ≤ n → (appAll d a s).1.waits.length ≤ d.waits.length + (s.length + 127) / 128 ∧ (appAll d a s).1.ops ≤ d.ops + (s.length + 127) / 128 := by
 induction n with
 | zero =>
  intro d a s hs
  have : s = [] := List.eq_nil_of_length_eq_zero (by omega)
  subst this
  exact ⟨Nat.le_add_right _ _, Nat.le_add_right _ _⟩
 | succ n ih =>
  intro d a s hs
  by_cases h0 : s = []
  ·subst h0
   exact ⟨Nat.le_add_right _ _, Nat.le_add_right _ _⟩
  ·have hl : 0 < s.length := List.length_pos_iff.2 h0
   obtain ⟨w1, w2, _⟩ := wNext_ops d (a : Int) (chunk s)
   rw [appAll_step h0]
   split
   ·have := ih (wNext d a (chunk s)) (a + 1) (s.drop 128) (by rw [List.length_drop]; omega)
    rw [List.length_drop] at this
    omega
   ·simp only
    omega
theorem append_few2 (d : DK) (j u : Int) (S : List UInt8) : (appendD d j u S).1.waits.length ≤ d.waits.length + (S.length / 128 + 2) ∧ (appendD d j u S).1.ops ≤ d.ops + (S.length / 128 + 2) := by
 unfold appendD
 split
 ·simp only; omega
 ·split
  ·simp only; omega
  ·split
   ·simp only; omega
   ·split
    ·simp only; omega
    ·have h := app_few2 _ d (2 + u.toNat / 128) ((seen d (2 + u.toNat / 128)).take (u.toNat % 128) ++ S) (Nat.le_refl _)
     have h2 : ((seen d (2 + u.toNat / 128)).take (u.toNat % 128)).length ≤ 127 := by rw [List.length_take]; omega
     rw [List.length_append] at h
     omega
theorem fw_append2 (d : DK) (j u : Int) (s : List UInt8) : Fw (s.length / 128 + 2) d (appendD d j u s).1 := ⟨by have := (append_few2 d j u s).2; omega, by have := (append_few2 d j u s).1; omega, append_len _ _ _ _⟩
theorem fw_chain (m : Nat) : ∀ (fs : List (DK → DK × Int)) (d : DK), (∀ f ∈ fs, ∀ e, e.stand.length = d.stand.length → Fw m e (f e).1) → Fw (fs.length * m) d (chainD fs d).1
 | [], d, _ => (Fw.refl d).mono (by simp)
 | f :: fs, d, h => by
  have h1 := h f (by simp) d rfl
  unfold chainD
  rw [List.length_cons, Nat.add_mul]
  split
  ·exact (h1.trans (fw_chain m fs (f d).1 (fun g hg e he => h g (by simp [hg]) e (he.trans h1.len)))).mono (by omega)
  ·exact h1.mono (by omega)
theorem fw_stN (m : Nat) (fs : List (DK → DK × Int)) (d : DK) (h : ∀ f ∈ fs, ∀ e, e.stand.length = d.stand.length → Fw m e (f e).1) : ∀ k, k ≤ fs.length → Fw (k * m) d (stN fs d k)
 | 0, _ => (Fw.refl d).mono (by simp)
 | k + 1, hk => by
  have h1 := fw_stN m fs d h k (by omega)
  rw [stN_succ fs d k (by omega), Nat.add_mul]
  exact (h1.trans (h _ (List.getElem_mem _) _ h1.len)).mono (by omega)
theorem fw_puts : ∀ (l : List VC) (recs : List JRec) (n : Nat), ∀ f ∈ putsD l recs, ∀ e : DK, e.stand.length = n → Fw n e (f e).1
 | [], _, _, f, hf, _, _ => by simp [putsD] at hf
 | x :: l, [], _, f, hf, _, _ => by simp [putsD] at hf
 | x :: l, r :: recs, n, f, hf, e, he => by
  unfold putsD at hf
  split at hf
  ·rcases List.mem_cons.1 hf with rfl | hf
   ·subst he; exact fw_put e _ _
   ·exact fw_puts l recs n f hf e he
  ·exact fw_puts l recs n f hf e he
theorem putsD_len : ∀ (l : List VC) (recs : List JRec), (putsD l recs).length ≤ l.length
 | [], _ => by simp [putsD]
 | x :: l, [] => by simp [putsD]
 | x :: l, r :: recs => by
  have := putsD_len l recs
  unfold putsD
  split
  ·rw [List.length_cons, List.length_cons]; omega
  ·rw [List.length_cons]; omega
theorem fw_appendX2 (c : JCat) (tx : List UInt8) (v : VS) : Fw (tx.length / 128 + 5) v.d (appendX c tx v).1.d := by
 have h1 := fw_append2 v.d v.s.journal v.s.used tx
 have h2 := fw_chain 2 [stepF, layD (nextS v.s (v.s.used + tx.length))] (appendD v.d v.s.journal v.s.used tx).1 (fun f hf e _ => by
  simp only [List.mem_cons, List.not_mem_nil, or_false] at hf
  rcases hf with rfl | rfl
  ·exact (fw_stepF e).mono (by omega)
  ·exact fw_lay _ e)
 have h3 : Fw (tx.length / 128 + 5) v.d (chainD [stepF, layD (nextS v.s (v.s.used + tx.length))] (appendD v.d v.s.journal v.s.used tx).1).1 := by
  obtain ⟨a, b, c⟩ := h1
  obtain ⟨x1, x2, x3⟩ := stepF_few (appendD v.d v.s.journal v.s.used tx).1
  obtain ⟨y1, y2, y3⟩ := layD_few (nextS v.s (v.s.used + tx.length)) (stepF (appendD v.d v.s.journal v.s.used tx).1).1
  show Fw _ _ (if (stepF (appendD v.d v.s.journal v.s.used tx).1).2 = 0 then (if (layD (nextS v.s (v.s.used + tx.length)) (stepF (appendD v.d v.s.journal v.s.used tx).1).1).2 = 0 then ((layD (nextS v.s (v.s.used + tx.length)) (stepF (appendD v.d v.s.journal v.s.used tx).1).1).1, (0 : Int)) else layD (nextS v.s (v.s.used + tx.length)) (stepF (appendD v.d v.s.journal v.s.used tx).1).1) else stepF (appendD v.d v.s.journal v.s.used tx).1).1
  split
  ·split
   ·exact ⟨by show (layD _ _).1.ops ≤ _; omega, by show (layD _ _).1.waits.length ≤ _; omega, y3.trans (x3.trans c)⟩
   ·exact ⟨by omega, by omega, y3.trans (x3.trans c)⟩
  ·exact ⟨by omega, by omega, x3.trans c⟩
 unfold appendX
 split
 ·split
  ·exact h3.mono (by omega)
  ·exact h3.mono (by omega)
 ·exact h1.mono (by omega)
theorem fw_setD (s : SB) (t : List UInt8) (runs : List (Int × Int)) (d : DK) : Fw (3 * (d.stand.length + 2)) d (setD s t runs d).1 := by
 refine fw_chain (d.stand.length + 2) [fun d => putX d runs t, stepF, layD (baseS s t.length runs)] d (fun f hf e he => ?_)
 simp only [List.mem_cons, List.not_mem_nil, or_false] at hf
 rcases hf with rfl | rfl | rfl
 ·have := fw_put e runs t
  rw [he] at this
  exact this.mono (by omega)
 ·exact (fw_stepF e).mono (by omega)
 ·exact (fw_lay _ e).mono (by omega)
theorem fw_settleX (c : JCat) (t : List UInt8) (runs : List (Int × Int)) (v : VS) : Fw (3 * (v.d.stand.length + 2)) v.d (settleX c t runs v).1.d := by
 unfold settleX
 split <;> exact fw_setD _ _ _ _
theorem fw_all (m q : Nat) (fs : List (DK → DK × Int)) (g : VS → VS × Int) (v : VS) (h : ∀ f ∈ fs, ∀ e, e.stand.length = v.d.stand.length → Fw m e (f e).1) (hg : ∀ u : VS, u.d.stand.length = v.d.stand.length → Fw q u.d (g u).1.d) : Fw (fs.length * m + q) v.d (tellX (chainV (fs.map onD ++ [g]) v)).1.d := by
 have h1 := fw_chain m fs v.d h
 show Fw _ _ (chainV (fs.map onD ++ [g]) v).1.d
 rw [chainV_append, chainV_onD]
 by_cases h0 : (onD (chainD fs) v).2 = 0
 ·rw [if_pos h0]
  have h2 := hg (onD (chainD fs) v).1 h1.len
  show Fw _ _ (if (g (onD (chainD fs) v).1).2 = 0 then ((g (onD (chainD fs) v).1).1, (0 : Int)) else g (onD (chainD fs) v).1).1.d
  split <;> exact h1.trans h2
 ·rw [if_neg h0]
  exact h1.mono (by omega)
end Go.Proofs.YtdkimcnlhmhpgaaGreat
