/- -/
import Derived.Test.YtdkimcnlhmhpgaaGreatH34
import Derived.Test.YtdkimcnlhmhpgaaGreatH39
set_option linter.unusedVariables false
set_option linter.unusedSimpArgs false
namespace Go.Proofs.YtdkimcnlhmhpgaaGreat
open Go.RowKit
theorem quiet_wcode {d : DK} (h : Quiet d) {i : Nat} (hi : i < d.stand.length) {s : List UInt8} (hs : s.length = 128) : wCode d i s = 0 := by
 unfold wCode atOf
 rw [h.down]
 simp only [Bool.false_eq_true, if_false]
 rw [if_neg (show ¬ ((i : Int) < 0 ∨ (d.stand.length : Int) ≤ i) by omega)]
 simp only [ne_eq, not_true_eq_false, if_false]
 rw [if_neg (by omega), if_neg (by have := h.fuse; omega)]
theorem quiet_put_ok {d : DK} (h : Quiet d) {l : List (Int × Int)} {s : List UInt8} (hX : FitX l d.stand.length s.length) : (putX d l s).2 = 0 := by
 obtain ⟨d', e1, _⟩ := put_ok (secsL l) d s h.fit h.down h.fuse (fun a ha => by have := (hX.lt ha).1; omega) (secsL_nodup hX.2.2.1)
 unfold putX
 rw [if_pos hX, if_neg (by rw [h.down]; simp), e1]
theorem quiet_append_ok {d : DK} (h : Quiet d) {j u : Int} {s : List UInt8} (hf : fitCode d.stand.length j u = 0) (hs : (s.length : Int) ≤ 128 * j - u) : (appendD d j u s).2 = 0 := by
 obtain ⟨f1, f2, f3, f4⟩ := fit_ok hf
 unfold appendD
 rw [if_neg (by rw [hf]; simp), if_neg (by omega), if_neg (by rw [h.down]; simp)]
 split
 ·rfl
 ·have h2 : ((seen d (2 + u.toNat / 128)).take (u.toNat % 128)).length ≤ u.toNat % 128 := by rw [List.length_take]; omega
  obtain ⟨d', e1, _⟩ := app_ok _ d (2 + u.toNat / 128) ((seen d (2 + u.toNat / 128)).take (u.toNat % 128) ++ s) (Nat.le_refl _) h.fit h.down h.fuse (by rw [List.length_append]; omega)
  rw [e1]
theorem quiet_lay_ok {d : DK} (h : Quiet d) {s : SB} (hs : s.sector.length = 128) (hn : 2 ≤ d.stand.length) : (layD s d).2 = 0 := by
 have h1 : (stepW ((s.seq % 2 : Nat) : Int) s.sector d).2 = 0 := quiet_wcode h (by omega) hs
 have h2 := (quiet_stepW (P := fun _ => False) h ((s.seq % 2 : Nat) : Int) s.sector (fun k hk => hk.elim)).1.quiet
 show (if (stepW ((s.seq % 2 : Nat) : Int) s.sector d).2 = 0 then (if (stepF (stepW ((s.seq % 2 : Nat) : Int) s.sector d).1).2 = 0 then ((stepF (stepW ((s.seq % 2 : Nat) : Int) s.sector d).1).1, (0 : Int)) else stepF (stepW ((s.seq % 2 : Nat) : Int) s.sector d).1) else stepW ((s.seq % 2 : Nat) : Int) s.sector d).2 = 0
 rw [if_pos h1]
 have h3 : (stepF (stepW ((s.seq % 2 : Nat) : Int) s.sector d).1).2 = 0 := h2.fcode
 rw [if_pos h3]
theorem quiet_chain2_ok {d : DK} (h : Quiet d) {s : SB} (hs : s.sector.length = 128) (hn : 2 ≤ d.stand.length) : (chainD [stepF, layD s] d).2 = 0 := by
 have h1 : (stepF d).2 = 0 := h.fcode
 have h2 := (quiet_stepF (P := fun _ => False) h).1
 show (if (stepF d).2 = 0 then (if (layD s (stepF d).1).2 = 0 then ((layD s (stepF d).1).1, (0 : Int)) else layD s (stepF d).1) else stepF d).2 = 0
 rw [if_pos h1, if_pos (quiet_lay_ok h2.quiet hs (by rw [h2.len]; exact hn))]
theorem quiet_appendX_ok {v : VS} (h : Quiet v.d) {c : JCat} {tx : List UInt8} (hf : fitCode v.d.stand.length v.s.journal v.s.used = 0) (hs : (tx.length : Int) ≤ 128 * v.s.journal - v.s.used) (hr : v.s.runs.length ≤ 16) : (appendX c tx v).2 = 0 ∧ (appendX c tx v).1.s = nextS v.s (v.s.used + tx.length) := by
 obtain ⟨f1, f2, f3, f4⟩ := fit_ok hf
 have h1 := quiet_append_ok h hf hs
 have h2 := (quiet_append (P := fun _ => False) h v.s.journal v.s.used tx (fun k hk => hk.elim)).1
 have h3 := quiet_chain2_ok h2.quiet (sector_len (nextS v.s (v.s.used + tx.length)) hr) (by rw [h2.len]; omega)
 unfold appendX
 rw [if_pos h1, if_pos h3]
 exact ⟨rfl, rfl⟩
theorem fmt_ok {d : DK} (h : Quiet d) (j : Int) (hn : 2 ≤ d.stand.length) : (fmtD j d).2 = 0 ∧ Quiet (fmtD j d).1 ∧ (fmtD j d).1.stand.length = d.stand.length := by
 have hz : zeroS.length = 128 := by unfold zeroS; exact List.length_replicate
 have q1 := (quiet_stepW (P := fun _ => False) h 0 zeroS (fun k hk => hk.elim)).1
 have c1 : (stepW 0 zeroS d).2 = 0 := quiet_wcode h (i := 0) (by omega) hz
 have q2 := (quiet_stepW (P := fun _ => False) q1.quiet 1 zeroS (fun k hk => hk.elim)).1
 have c2 : (stepW 1 zeroS (stepW 0 zeroS d).1).2 = 0 := quiet_wcode q1.quiet (i := 1) (by rw [q1.len]; omega) hz
 have q3 := (quiet_stepF (P := fun _ => False) q2.quiet).1
 have c3 : (stepF (stepW 1 zeroS (stepW 0 zeroS d).1).1).2 = 0 := q2.quiet.fcode
 have q4 := (quiet_lay (P := fun _ => False) (sb0 d.stand.length j) (fun k hk => hk.elim) q3.quiet).1
 have c4 := quiet_lay_ok q3.quiet (sector_len (sb0 d.stand.length j) (by show 0 ≤ 16; omega)) (by rw [q3.len, q2.len, q1.len]; exact hn)
 have e : fmtD j d = if (stepW 0 zeroS d).2 = 0 then (if (stepW 1 zeroS (stepW 0 zeroS d).1).2 = 0 then (if (stepF (stepW 1 zeroS (stepW 0 zeroS d).1).1).2 = 0 then (if (layD (sb0 d.stand.length j) (stepF (stepW 1 zeroS (stepW 0 zeroS d).1).1).1).2 = 0 then ((layD (sb0 d.stand.length j) (stepF (stepW 1 zeroS (stepW 0 zeroS d).1).1).1).1, (0 : Int)) else layD (sb0 d.stand.length j) (stepF (stepW 1 zeroS (stepW 0 zeroS d).1).1).1) else stepF (stepW 1 zeroS (stepW 0 zeroS d).1).1) else stepW 1 zeroS (stepW 0 zeroS d).1) else stepW 0 zeroS d := rfl
 rw [e, if_pos c1, if_pos c2, if_pos c3, if_pos c4]
 exact ⟨rfl, q4.quiet, q4.len.trans (q3.len.trans (q2.len.trans q1.len))⟩
theorem has_one (a n m : Nat) : hasB [((a : Int), (n : Int))] m = decide (a ≤ m ∧ m < a + n) := by
 unfold hasB
 simp only [List.any_cons, List.any_nil, Bool.or_false]
 by_cases h : a ≤ m ∧ m < a + n
 ·rw [decide_eq_true h, decide_eq_true (by omega), decide_eq_true (by omega)]; rfl
 ·rw [decide_eq_false h]
  by_cases h1 : a ≤ m
  ·rw [decide_eq_true (by omega), decide_eq_false (by omega)]; rfl
  ·rw [decide_eq_false (by omega), Bool.false_and]
theorem pl_one (a n : Nat) (hn : 1 ≤ n) (h : a + n ≤ 8192) : Pl 0 [((a : Int), (n : Int))] := ⟨by show (0 : Int) ≤ a; omega, by show (1 : Int) ≤ n; omega, by show (a : Int) + n ≤ 8192; omega, trivial⟩
theorem canon_one {f : Nat → Bool} (a n : Nat) (hn : 1 ≤ n) (h : a + n ≤ 8192) (hf : ∀ m, m < 8192 → f m = decide (a ≤ m ∧ m < a + n)) : canon f = [((a : Int), (n : Int))] :=
 (canon_eq (pl_one a n hn h) (fun m hm => by rw [← hasB_iff, has_one, hf m hm])).symm
theorem count_one (a n : Nat) (hn : 1 ≤ n) (h : a + n ≤ 8192) : countL [((a : Int), (n : Int))] = n := by
 have h1 := plain_sum [((a : Int), (n : Int))]
 rw [plain_self (pl_one a n hn h)] at h1
 have e : sumLen [((a : Int), (n : Int))] = n := by unfold sumLen; simp
 omega
theorem minus_none (a n : Nat) (hn : 1 ≤ n) (h : a + n ≤ 8192) : minusL [((a : Int), (n : Int))] [] = [((a : Int), (n : Int))] :=
 canon_one a n hn h (fun m _ => by rw [has_one]; simp [hasB])
theorem minus_low (a n k : Nat) (hn : k + 1 ≤ n) (h : a + n ≤ 8192) : minusL [((a : Int), (n : Int))] [((a : Int), (k : Int))] = [(((a + k : Nat) : Int), ((n - k : Nat) : Int))] :=
 canon_one (a + k) (n - k) (by omega) (by omega) (fun m _ => by
  rw [has_one, has_one]
  by_cases h1 : a ≤ m ∧ m < a + n
  ·by_cases h2 : a ≤ m ∧ m < a + k
   ·rw [decide_eq_true h1, decide_eq_true h2, decide_eq_false (by omega)]; rfl
   ·rw [decide_eq_true h1, decide_eq_false h2, decide_eq_true (by omega)]; rfl
  ·rw [decide_eq_false h1, decide_eq_false (show ¬ (a ≤ m ∧ m < a + k) by omega), decide_eq_false (show ¬ (a + k ≤ m ∧ m < a + k + (n - k)) by omega)]; rfl)
theorem low_one (a n k : Nat) (hk : 1 ≤ k) (hn : k ≤ n) (h : a + n ≤ 8192) : lowestL [((a : Int), (n : Int))] k = [((a : Int), (k : Int))] :=
 canon_one a k hk (by omega) (fun m _ => by
  unfold lowF
  have hc : ∀ j, cntF (hasB [((a : Int), (n : Int))]) j = min j (a + n) - min j a := fun j => by
   rw [← cntF_run a n j]
   exact cntF_congr j (fun m _ => has_one a n m)
  rw [has_one, hc]
  by_cases h1 : a ≤ m ∧ m < a + n
  ·rw [decide_eq_true h1, Bool.true_and]
   by_cases h2 : m < a + k
   ·rw [decide_eq_true (by omega), decide_eq_true (by omega)]
   ·rw [decide_eq_false (by omega), decide_eq_false (by omega)]
  ·rw [decide_eq_false h1, Bool.false_and, decide_eq_false (show ¬ (a ≤ m ∧ m < a + k) by omega)])
def zs200 : List UInt8 := List.replicate 200 0
def chA : VC := ⟨3, 0, [97], zs200⟩
def itA : JRec := ⟨3, 0, [97], 200, [(4, 2)]⟩
theorem may_A : mayR itA = true := by decide
theorem may_cA : mayR chA.told = true := by decide
theorem mayC_E : mayC catE := ⟨⟨by decide, fun a ha => (by cases ha), List.Pairwise.nil⟩, ⟨by decide, fun a ha => by cases ha⟩, ⟨by decide, fun a ha => (by cases ha), List.Pairwise.nil⟩, ⟨by decide, fun a ha => by cases ha⟩, ⟨by decide, fun a ha => (by cases ha), List.Pairwise.nil⟩⟩
theorem one_E : oneX catE chA.told = (⟨1, 1, [], [], [⟨0, [97], 0, []⟩]⟩, 0) := by
 have e : comesX [] (JRec.item chA.told) 0 256 false = ([⟨0, [97], 0, []⟩], 0) := by
  unfold comesX
  rw [if_neg (by simp), if_neg (by
   rintro (hh | hh)
   ·obtain ⟨y, hy, _⟩ := hasK_iff.1 hh
    cases hy
   ·exact absurd hh (by show ¬ (0 : Int) < 0; decide)), if_neg (by simp)]
  rfl
 show (if (3 : Int) = 1 then _ else if (3 : Int) = 2 then _ else if (3 : Int) = 3 then ({ catE with names := (comesX [] (JRec.item chA.told) 0 256 false).1 }, (comesX [] (JRec.item chA.told) 0 256 false).2) else _) = _
 rw [if_neg (by decide), if_neg (by decide), if_pos rfl, e]
 rfl
theorem one_A : oneX catE itA = (⟨1, 1, [], [], [⟨0, [97], 200, [(4, 2)]⟩]⟩, 0) := by
 have e : comesX [] (JRec.item itA) 0 256 false = ([⟨0, [97], 200, [(4, 2)]⟩], 0) := by
  unfold comesX
  rw [if_neg (by simp), if_neg (by
   rintro (hh | hh)
   ·obtain ⟨y, hy, _⟩ := hasK_iff.1 hh
    cases hy
   ·exact absurd hh (by show ¬ (0 : Int) < 0; decide)), if_neg (by simp)]
  rfl
 show (if (3 : Int) = 1 then _ else if (3 : Int) = 2 then _ else if (3 : Int) = 3 then ({ catE with names := (comesX [] (JRec.item itA) 0 256 false).1 }, (comesX [] (JRec.item itA) 0 256 false).2) else _) = _
 rw [if_neg (by decide), if_neg (by decide), if_pos rfl, e]
 rfl
theorem apply_E : applyX catE [chA.told] = (⟨1, 1, [], [], [⟨0, [97], 0, []⟩]⟩, 0) := by
 unfold applyX
 rw [if_pos mayC_E]
 show (if mayR chA.told = true then if (oneX catE chA.told).2 = 0 then recsX (oneX catE chA.told).1 [] else _ else _) = _
 rw [if_pos may_cA, one_E, if_pos rfl]
 rfl
theorem apply_A : applyX catE [itA] = (⟨1, 1, [], [], [⟨0, [97], 200, [(4, 2)]⟩]⟩, 0) := by
 unfold applyX
 rw [if_pos mayC_E]
 show (if mayR itA = true then if (oneX catE itA).2 = 0 then recsX (oneX catE itA).1 [] else _ else _) = _
 rw [if_pos may_A, one_A, if_pos rfl]
 rfl
theorem room_0 (d : DK) (dead : Bool) : roomX ⟨d, sb0 12 2, catE, dead⟩ = [(4, 8)] := minus_none 4 8 (by omega) (by omega)
theorem room_A (d : DK) (dead : Bool) (s : SB) (h1 : s.journal = 2) (h2 : s.sectors = 12) (h3 : s.runs = []) : roomX ⟨d, s, ⟨1, 1, [], [], [⟨0, [97], 200, [(4, 2)]⟩]⟩, dead⟩ = [(6, 6)] := by
 unfold roomX
 rw [h1, h2, h3]
 exact minus_low 4 8 2 (by omega) (by omega)
theorem fitX_A : FitX [(4, 2)] (12 : Nat) (zs200.length : Nat) := by
 refine ⟨by omega, by decide, ⟨fun a ha => ?_, List.pairwise_singleton _ _⟩, ?_⟩
 ·obtain rfl := List.mem_singleton.1 ha
  unfold OkX
  omega
 ·have := count_one 4 2 (by omega) (by omega)
  rw [show (([(4, 2)] : List (Int × Int))) = [(((4 : Nat) : Int), ((2 : Nat) : Int))] from rfl, this]
  show ((2 : Nat) : Int) = need ((List.replicate 200 (0 : UInt8)).length : Int)
  rw [List.length_replicate]
  decide
theorem tx_A : txCode [itA] = 0 ∧ (txOut [itA]).length ≤ 256 := by
 have h1 : txCode [itA] = 0 := by
  unfold txCode
  rw [if_neg (by decide), if_pos (by simp [may_A])]
 refine ⟨h1, ?_⟩
 unfold txOut
 rw [if_pos h1]
 have hb := bodyL_len (l := [itA]) (fun r hr => by
  obtain rfl := List.mem_singleton.1 hr
  exact rec_ok may_A ⟨by decide, by decide, by unfold maxLen; decide, by decide⟩)
 have e1 : [itA].length = 1 := rfl
 unfold txL
 simp only [List.length_append, numL_len]
 omega
open Classical in
theorem change_A {d : DK} (h : Quiet d) (hn : d.stand.length = 12) : (changeX ⟨d, sb0 12 2, catE, false⟩ [chA]).2 = 0 ∧ countL (roomX (changeX ⟨d, sb0 12 2, catE, false⟩ [chA]).1) = 6 ∧ (changeX ⟨d, sb0 12 2, catE, false⟩ [chA]).1.s.may ∧ totC (changeX ⟨d, sb0 12 2, catE, false⟩ [chA]).1.c ≤ 1000 := by
 have hp : planAt (roomX ⟨d, sb0 12 2, catE, false⟩) [chA] [chA].length = ([itA], minusL [(4, 8)] [(4, 2)]) := by
  rw [room_0]
  have e1 : need (chA.bytes.length : Int) = 2 := by show need ((List.replicate 200 (0 : UInt8)).length : Int) = 2; rw [List.length_replicate]; decide
  have e2 : lowestL [(4, 8)] 2 = [(4, 2)] := low_one 4 8 2 (by omega) (by omega) (by omega)
  show plan1 ([], [(4, 8)]) chA = _
  unfold plan1
  rw [if_pos (by decide), e1, e2]
  rfl
 have hpo : planOk (roomX ⟨d, sb0 12 2, catE, false⟩) [chA] := by
  intro k hk _
  obtain rfl : k = 0 := by simpa using hk
  rw [room_0]
  have e1 : need (chA.bytes.length : Int) = 2 := by show need ((List.replicate 200 (0 : UInt8)).length : Int) = 2; rw [List.length_replicate]; decide
  show lowCode [(4, 8)] (need (chA.bytes.length : Int)) = 0
  rw [e1]
  have e2 : lowestL [(4, 8)] 2 = [(4, 2)] := low_one 4 8 2 (by omega) (by omega) (by omega)
  have e3 : countL [(4, 8)] = 8 := count_one 4 8 (by omega) (by omega)
  exact (low_ok2 (by omega) (by rw [e3]; decide) (by rw [e2]; decide)).1
 have hw : wrongX catE [chA] = 0 := by
  unfold wrongX
  rw [if_neg (by simp), if_pos (by decide)]
  show (applyX catE [chA.told]).2 = 0
  rw [apply_E]
 have hput := quiet_put_ok h (l := [(4, 2)]) (s := zs200) (by rw [hn]; exact fitX_A)
 have hq1 := (quiet_putX (P := fun _ => False) h [(4, 2)] zs200 (fun k hk => hk.elim)).1
 have hf := hq1.quiet.fcode
 have hq2 := (quiet_stepF (P := fun _ => False) hq1.quiet).1
 have hap := quiet_appendX_ok (v := ⟨(stepF (putX d [(4, 2)] zs200).1).1, sb0 12 2, catE, false⟩) hq2.quiet (c := ⟨1, 1, [], [], [⟨0, [97], 200, [(4, 2)]⟩]⟩) (tx := txOut [itA]) (by
  show fitCode (stepF (putX d [(4, 2)] zs200).1).1.stand.length 2 0 = 0
  rw [hq2.len, hq1.len, hn]; decide) (by have := tx_A.2; show _ ≤ 128 * (2 : Int) - 0; omega) (by show 0 ≤ 16; omega)
 have hc := appendX_ok hap.1
 have hall : chainV (putsX [chA] [itA] ++ [onD stepF, appendX ⟨1, 1, [], [], [⟨0, [97], 200, [(4, 2)]⟩]⟩ (txOut [itA])]) ⟨d, sb0 12 2, catE, false⟩ = ((appendX ⟨1, 1, [], [], [⟨0, [97], 200, [(4, 2)]⟩]⟩ (txOut [itA]) ⟨(stepF (putX d [(4, 2)] zs200).1).1, sb0 12 2, catE, false⟩).1, 0) := by
  show (if (putX d [(4, 2)] zs200).2 = 0 then (if (stepF (putX d [(4, 2)] zs200).1).2 = 0 then (if (appendX ⟨1, 1, [], [], [⟨0, [97], 200, [(4, 2)]⟩]⟩ (txOut [itA]) ⟨(stepF (putX d [(4, 2)] zs200).1).1, sb0 12 2, catE, false⟩).2 = 0 then _ else _) else _) else _) = _
  rw [if_pos hput, if_pos (show (stepF (putX d [(4, 2)] zs200).1).2 = 0 from hf), if_pos hap.1]
  rfl
 have hch : changeX ⟨d, sb0 12 2, catE, false⟩ [chA] = tellX ((appendX ⟨1, 1, [], [], [⟨0, [97], 200, [(4, 2)]⟩]⟩ (txOut [itA]) ⟨(stepF (putX d [(4, 2)] zs200).1).1, sb0 12 2, catE, false⟩).1, 0) := by
  unfold changeX
  rw [hp]
  simp only
  rw [if_neg (by simp), if_neg (by rw [hw]; simp), if_neg (by simpa using hpo), apply_A]
  simp only
  rw [if_neg (by simp), if_neg (by rw [tx_A.1]; simp), if_pos (by have := tx_A.2; show _ ≤ (2 : Int) * 128 - 0; omega), hall]
 rw [hch]
 refine ⟨rfl, ?_, ?_, ?_⟩
 rotate_left
 ·show (appendX _ _ _).1.s.may
  rw [hap.2]
  have := tx_A.2
  exact nextS_may (sb0_may (by omega) (by omega) (by omega) (by omega)) (by show (0 : Int) ≤ 0 + (txOut [itA]).length; omega) (by show (0 : Int) + (txOut [itA]).length ≤ 2 * 128; omega)
 ·show totC (appendX _ _ _).1.c ≤ 1000
  rw [hc.1]
  decide
 have e : roomX (tellX ((appendX ⟨1, 1, [], [], [⟨0, [97], 200, [(4, 2)]⟩]⟩ (txOut [itA]) ⟨(stepF (putX d [(4, 2)] zs200).1).1, sb0 12 2, catE, false⟩).1, 0)).1 = [(6, 6)] := by
  generalize hA : appendX ⟨1, 1, [], [], [⟨0, [97], 200, [(4, 2)]⟩]⟩ (txOut [itA]) ⟨(stepF (putX d [(4, 2)] zs200).1).1, sb0 12 2, catE, false⟩ = A at hap hc ⊢
  obtain ⟨⟨d', s', c', dd'⟩, code⟩ := A
  obtain rfl : c' = _ := hc.1
  obtain rfl : s' = _ := hap.2
  exact room_A _ _ _ rfl rfl rfl
 rw [e]
 exact count_one 6 6 (by omega) (by omega)
end Go.Proofs.YtdkimcnlhmhpgaaGreat
