/- -/
import Derived.Test.YtdkimcnlhmhpgaaGreatH01
import Derived.Test.YtdkimcnlhmhpgaaGreatH02
import Derived.Test.YtdkimcnlhmhpgaaGreatH04
import Derived.Test.YtdkimcnlhmhpgaaGreatH05
import Derived.Test.YtdkimcnlhmhpgaaGreatH09
import Derived.Deep.Grids
import Derived.ProofKit
import Derived.OpenShut
import Derived.RangeFuncNested
import Derived.RangeFuncLeaves
import Derived.RangeFuncCalls
import Derived.RangeFuncBox
import Derived.Shelf.Abstract
import Derived.WalkKit
import Derived.OwnWalkIn
import Derived.TacticsInMore
import Derived.LoopNIn
import Derived.LoopIn
import Derived.Maps.AppendAt
import Derived.Deep.RegionHeld3
import Derived.Deep.RegionLaw
import Derived.Deep.RegionWith
import Derived.Deep.QuietTactic
import Derived.Deep.CutRange
import Derived.Deep.CutBlock
import Derived.Deep.DeepCutAuto
set_option linter.unusedVariables false
set_option linter.unusedSimpArgs false
namespace Go.Proofs.YtdkimcnlhmhpgaaGreat
open Go.ChangeShapes Go.WideShapes Go.ChangeAt Go.RowKit Go.Deep
theorem lastOf_mem {l : List (Nat × List UInt8)} {i : Nat} {s : List UInt8} (h : lastOf l i = some s) : (i, s) ∈ l := by
 suffices ∀ (l m : List (Nat × List UInt8)), m ++ l = m ++ l → ∀ n, n ≤ l.length → lastOf (l.take n) i = some s → (i, s) ∈ l by
  exact this l [] rfl l.length (Nat.le_refl _) (by rwa [List.take_length])
 intro l m _ n
 induction n with
 | zero => intro _ h; rw [List.take_zero, lastOf_nil] at h; cases h
 | succ n ih =>
  intro hn h
  rw [List.take_succ_eq_append_getElem (by omega), lastOf_snoc] at h
  split at h
  ·rename_i he
   injection h with h
   have : l[n] = (i, s) := Prod.ext he h
   rw [← this]; exact List.getElem_mem _
  ·exact ih (by omega) h
theorem seen_len {d : DK} (hf : Fit d) {i : Nat} (hi : i < d.stand.length) : (seen d i).length = 128 := by
 unfold seen
 cases h : lastOf d.waits i with
 | some s => exact (hf.fine _ (lastOf_mem h)).2
 | none =>
  show (d.stand.getD i []).length = 128
  rw [List.getD_eq_getElem?_getD, List.getElem?_eq_getElem hi]
  exact hf.all _ (List.getElem_mem hi)
structure DOps (Inv : DK → World → Prop) (b : Nat) : Prop where
 len : ∀ {d w}, Inv d w → 1 ≤ d.stand.length ∧ d.stand.length ≤ 8192
 fit : ∀ {d w}, Inv d w → Fit d
 keep : ∀ {d w w'}, Inv d w → Kept [] w w' → Inv d w'
 lenC : ∀ {d w}, Inv d w → Calls Tryz.prog 36 #[.pointer (some ⟨b, 0, none⟩)] w fun e w' => e = .returned (.int .i64 d.stand.length) ∧ w = w'
 downC : ∀ {d w}, Inv d w → Calls Tryz.prog 61 #[.pointer (some ⟨b, 0, none⟩)] w fun e w' => e = .returned (.bool d.down) ∧ w = w'
 readC : ∀ {d w} (i : Int), Inv d w → Calls Tryz.prog 62 #[.pointer (some ⟨b, 0, none⟩), .int .i64 i] w fun e w' => e = .returned (.tuple #[.string (bs (rVal d i)), .int .i64 (atOf d i)]) ∧ w = w'
 writeC : ∀ {d w} (i : Int) (s : List UInt8), Inv d w → d.ops < 100000 → d.waits.length ≤ 10000 → Calls Tryz.prog 88 #[.pointer (some ⟨b, 0, none⟩), .int .i64 i, .string (bs s)] w fun e w' => e = .returned (.int .i64 (wCode d i s)) ∧ Inv (wNext d i s) w'
theorem wNext_ops (d : DK) (i : Int) (s : List UInt8) : (wNext d i s).ops ≤ d.ops + 1 ∧ (wNext d i s).waits.length ≤ d.waits.length + 1 ∧ (wNext d i s).stand.length = d.stand.length := by
 unfold wNext
 split
 ·unfold writeD; simp
 ·simp
def chunk (s : List UInt8) : List UInt8 := fillL (s.take 128) 128
theorem chunk_len (s : List UInt8) : (chunk s).length = 128 := by
 unfold chunk fillL
 have : (s.take 128).length ≤ 128 := List.length_take_le _ _
 rw [List.length_append, List.length_replicate]; omega
theorem sk_last (st : List (List UInt8)) (ws : List (Nat × List UInt8)) (n i : Nat) (hn : n ≤ ws.length) (hi : i < st.length) : (sk st ws (fun _ => true) n).getD i [] = (lastOf (ws.take n) i).getD (st.getD i []) := by
 induction n with
 | zero => rfl
 | succ n ih =>
  rw [sk_succ _ _ _ _ (by omega), if_pos rfl, List.take_succ_eq_append_getElem (by omega), lastOf_snoc]
  by_cases h : ws[n].1 = i
  ·rw [if_pos h]
   subst h
   rw [List.getD_eq_getElem?_getD, List.getElem?_set_self (by rw [sk_len]; exact hi)]
   rfl
  ·rw [if_neg h, ← ih (by omega), List.getD_eq_getElem?_getD, List.getElem?_set_ne h, ← List.getD_eq_getElem?_getD]
theorem seen_settle (d : DK) (i : Nat) (hi : i < d.stand.length) : seen (settleD d (fun _ => true)) i = seen d i := by
 have := sk_last d.stand d.waits d.waits.length i (Nat.le_refl _) hi
 rw [List.take_length] at this
 unfold seen
 exact this
theorem seen_write (d : DK) (a i : Nat) (s : List UInt8) : seen (writeD d a s) i = if a = i then s else seen d i := by
 unfold seen writeD
 simp only [lastOf_snoc]
 split <;> rfl
theorem settle_len (d : DK) (k : Nat → Bool) : (settleD d k).stand.length = d.stand.length := sk_len _ _ _ _
def chunksL : Nat → List UInt8 → List UInt8
 | 0, _ => []
 | m + 1, W => chunk W ++ chunksL m (W.drop 128)
theorem chunk_head (W : List UInt8) : ∃ z, chunk W = W.take 128 ++ z := ⟨_, rfl⟩
theorem chunksL_take (m : Nat) (W : List UInt8) (h : W.length ≤ 128 * m) : (chunksL m W).take W.length = W := by
 induction m generalizing W with
 | zero =>
  have : W = [] := List.eq_nil_of_length_eq_zero (by omega)
  subst this; rfl
 | succ m ih =>
  rw [chunksL]
  by_cases hs : W.length ≤ 128
  ·obtain ⟨z, hz⟩ := chunk_head W
   rw [hz, List.take_of_length_le hs, List.append_assoc, List.take_append_of_le_length (Nat.le_refl _), List.take_length]
  ·have e := ih (W.drop 128) (by rw [List.length_drop]; omega)
   rw [List.length_drop] at e
   have hc : chunk W = W.take 128 := by
    obtain ⟨z, hz⟩ := chunk_head W
    have hl := chunk_len W
    rw [hz, List.length_append, List.length_take] at hl
    have : z = [] := List.eq_nil_of_length_eq_zero (by omega)
    rw [hz, this, List.append_nil]
   rw [hc, List.take_append, List.length_take, Nat.min_eq_left (by omega), e, List.take_of_length_le (by rw [List.length_take]; omega), List.take_append_drop]
theorem write_ok {d : DK} {a : Nat} {s : List UInt8} (hd : d.down = false) (hfu : d.fuse < 0) (ha : a < d.stand.length) : wCode d a (chunk s) = 0 ∧ wNext d a (chunk s) = writeD d a (chunk s) := by
 have hat : atOf d (a : Int) = 0 := by
  unfold atOf
  rw [hd, if_neg (by simp), if_neg (by omega)]
 refine ⟨?_, ?_⟩
 ·unfold wCode
  rw [hat, chunk_len, if_neg (by simp), if_neg (by simp), if_neg (by omega)]
 ·unfold wNext
  rw [if_pos ⟨hat, chunk_len s⟩, Int.toNat_natCast]
section
variable {H : Type} {enc : TypeId × Value → H} {w : World} {base : Nat} {held : Bool} {r : Reach} {b0 : Nat}
end
end Go.Proofs.YtdkimcnlhmhpgaaGreat

/- -/
namespace Go.Proofs.YtdkimcnlhmhpgaaGreat
open Go.RowKit
theorem bd64 {n : Int} (h : (Lit.int .i64 n).wf = true) : -9223372036854775808 ≤ n ∧ n ≤ 9223372036854775807 := by
 simp only [Lit.wf, Bool.and_eq_true, decide_eq_true_eq] at h
 exact h
def need (n : Int) : Int := if n < 1 then 0 else (n - 1) / 128 + 1
set_option maxRecDepth 100000 in
theorem pneed (n : Int) (w : World) (hn : (Lit.int .i64 n).wf = true) :
  Calls Tryz.prog 54 #[.int .i64 n] w fun e w' => e = .returned (.int .i64 (need n)) ∧ w = w' := by
 have hb := bd64 hn
 unfold need
 by_cases h : n < 1
 ·rw [if_pos h]
  go_enter Tryz.func54, Tryz.ntmps54
  go_wp2_with fail
  go_ret
  exact ⟨rfl, rfl⟩
 ·rw [if_neg h]
  go_enter Tryz.func54, Tryz.ntmps54
  go_wp2_with fail
  go_ret
  exact ⟨rfl, rfl⟩
def LieSays (f s : Int) (l : List (Int × Int)) (w : World) (e : Ending) (w' : World) : Prop := e = .returned (if lies f s l then .tuple #[.int .i64 (sumLen l), .bool true] else .tuple #[.int .i64 0, .bool false]) ∧ Kept [] w w'
theorem lieSays_no {f s : Int} {l : List (Int × Int)} {w w' : World} (h : lies f s l = false) (hk : Kept [] w w') : LieSays f s l w (.returned (.tuple #[.int .i64 0, .bool false])) w' := by
 refine ⟨?_, hk⟩; rw [h]; rfl
theorem lieSays_yes {f s : Int} {l : List (Int × Int)} {w w' : World} (h : lies f s l = true) (hk : Kept [] w w') : LieSays f s l w (.returned (.tuple #[.int .i64 (sumLen l), .bool true])) w' := by
 refine ⟨?_, hk⟩; rw [h]; rfl
theorem okRun_cases {f s : Int} {a : Int × Int} : (okRun f s a = false ∧ (a.1 < f ∨ (f ≤ a.1 ∧ a.2 < 1) ∨ (f ≤ a.1 ∧ 1 ≤ a.2 ∧ s < a.1) ∨ (f ≤ a.1 ∧ 1 ≤ a.2 ∧ a.1 ≤ s ∧ s - a.1 < a.2))) ∨ (okRun f s a = true ∧ f ≤ a.1 ∧ 1 ≤ a.2 ∧ a.1 ≤ s ∧ a.2 ≤ s - a.1) := by
 cases h : okRun f s a
 ·refine Or.inl ⟨rfl, ?_⟩
  have h' : ¬ (f ≤ a.1 ∧ 1 ≤ a.2 ∧ a.1 ≤ s ∧ a.2 ≤ s - a.1) := fun hh => by rw [okRun_iff.2 hh] at h; cases h
  omega
 ·exact Or.inr ⟨rfl, okRun_iff.1 h⟩
theorem apart_cases {a b : Int × Int} : (apart a b = false ∧ a.1 < b.1 + b.2 ∧ b.1 < a.1 + a.2) ∨ (apart a b = true ∧ (b.1 + b.2 ≤ a.1 ∨ (a.1 < b.1 + b.2 ∧ a.1 + a.2 ≤ b.1))) := by
 cases h : apart a b
 ·refine Or.inl ⟨rfl, ?_⟩
  have h' : ¬ (a.1 + a.2 ≤ b.1 ∨ b.1 + b.2 ≤ a.1) := fun hh => by rw [apart_iff.2 hh] at h; cases h
  omega
 ·have := apart_iff.1 h
  exact Or.inr ⟨rfl, by omega⟩
set_option maxRecDepth 100000 in
set_option maxHeartbeats 1600000 in
theorem plie (v : Value) (l : List (Int × Int)) (lo hi : Nat) (f s : Int) (w : World) (h : RunsIn w v l lo hi) (hl : l.length ≤ 1000000) (hf : 0 ≤ f) (hf2 : f ≤ 100000) (hs : 0 ≤ s) (hs2 : s ≤ 8192) :
  Calls Tryz.prog 223 #[v, .int .i64 f, .int .i64 s] w (LieSays f s l w) := by
 obtain ⟨p, c, rfl⟩ := h.shape
 go_enter Tryz.func223, Tryz.ntmps223
 go_wp2_with fail
 go_loopw [8, 15] (fun a i wr => ∃ k : Nat, k ≤ l.length ∧ i = .int .i64 k ∧ a = .int .i64 (sumLen (l.take k)) ∧ Aside (lieTo f s l k = true) ∧ Kept [] w wr) (fun _ i _ => l.length - (intOf i).toNat)
 case atStart => exact ⟨0, by omega, rfl, by simp [sumLen], rfl, Kept.refl _ _⟩
 case round =>
  obtain ⟨k, hk, rfl, rfl, hL, hK⟩ := hrel
  by_cases hlt : k < l.length
  ·obtain ⟨b, off, rfl, c0, c1, hb, hlc, hcm⟩ := (h.kept0 hK).at_ k hlt
   unfold maxLen at hcm
   have hno := lies_no f s l k hlt
   have hall : Aside (∀ m, (l.take m).all (apart l[k]) = true → m = k → okRun f s l[k] = true → lieTo f s l (k + 1) = true) := fun m h1 h2 h3 => by
    subst h2; rw [lieTo_succ f s l m hlt, hL.out, h3, h1]; rfl
   have hsum : Hid (sumLen (l.take (k + 1)) = sumLen (l.take k) + l[k].2) := sumLen_take l k hlt
   have hbd := sumLen_bd (Nat.le_of_lt hlt) hL.out hf hs2
   have hks : (8192 : Int) * k ≤ 8192000000 := by omega
   have hnoap := all_take_no l[k] l
   rcases @okRun_cases f s l[k] with ⟨h0, hbad⟩ | ⟨h0, g1, g2, g3, g4⟩
   ·have HN : Hid (lies f s l = false) := hno (by rw [h0]; rfl)
    clear hno hall hsum h0 hnoap
    generalize l[k] = a at *
    generalize sumLen (l.take k) = sm at *
    rcases hbad with g1 | ⟨g1, g2⟩ | ⟨g1, g2, g3⟩ | ⟨g1, g2, g3, g4⟩
    all_goals
     go_wp2_with fail
     go_ret2
     exact lieSays_no HN.out (hK.alloc _)
   ·have hno2 : Hid ((l.take k).all (apart l[k]) = false → lies f s l = false) := fun hh => hno (by rw [hh, Bool.and_false])
    have H0 := Lib.hid h0
    have HA := Lib.hid hnoap
    have hstep := fun m hm => all_take_succ l[k] l m hm
    have HST := Lib.hid hstep
    have hokl := lieTo_ok (Nat.le_of_lt hlt) hL.out
    have HOK := Lib.hid hokl
    clear hno h0 hnoap hstep hokl
    generalize l[k] = a at *
    generalize sumLen (l.take k) = sm at *
    go_wp2_with fail
    obtain ⟨wo, rfl⟩ : ∃ wo : World, wo = wr := ⟨_, rfl⟩
    go_loopw [48] (fun i wr => ∃ m : Nat, m ≤ k ∧ i = .int .i64 m ∧ Aside ((l.take m).all (apart a) = true) ∧ Kept [] w wr ∧ Own wr wo.heap.size #[.int .i64 a.1, .int .i64 a.2] 128) (fun i _ => k - (intOf i).toNat)
    case atStart => exact ⟨0, by omega, rfl, rfl, hK.alloc _, Own.new _ _ _⟩
    case round =>
     obtain ⟨m, hm, rfl, hAP, hK2, ho⟩ := hrel
     obtain ⟨d0, d1⟩ := ho.c2
     have hlt3 := ho.lt
     by_cases hmk : m < k
     ·obtain ⟨b', off', hbe, e0, e1, hb2, -, -⟩ := (h.kept0 hK2).at_ m (by omega)
      injection hbe with hbe
      injection hbe with hbe1 hbe2 _
      subst hbe1 hbe2
      have hob := okRun_iff.1 (HOK.out m hmk)
      have hst2 := HST.out m (by omega)
      have hap2 := HA.out m k (by omega) hmk
      have HST2 := Lib.hid hst2
      have HAP2 := Lib.hid hap2
      have hc := @apart_cases a l[m]
      clear hst2 hap2
      generalize l[m] = bb at *
      obtain ⟨q1, q2, q3, q4⟩ := hob
      rcases hc with ⟨r0, r1, r2⟩ | ⟨r0, r1⟩
      ·have HN : Hid (lies f s l = false) := hno2.out (HAP2.out r0)
       clear r0 c0 c1
       go_wp2_with fail
       go_ret2
       exact lieSays_no HN.out (hK2.alloc _)
      ·have R0 := Lib.hid r0
       clear r0 c0 c1
       rcases r1 with r1 | ⟨r1, r2⟩
       all_goals
        go_wp2_with fail
        go_roundw
        case rel => exact ⟨m + 1, by omega, by go_num, by rw [HST2.out, hAP.out, R0.out]; rfl, hK2.alloc _, ho.alloc _⟩
        case measure => simp [intOf]; omega
     ·have hmk2 : m = k := by omega
      have HL : Aside (lieTo f s l (k + 1) = true) := hall.out m hAP.out hmk2 H0.out
      clear hAP c0 c1
      have hge : (k : Int) ≤ m := by omega
      clear hmk2 hmk
      go_wp2_with fail
      go_roundw
      case rel => exact ⟨k + 1, by omega, by go_num, by rw [hsum.out], HL, hK2⟩
      case measure => simp [intOf]; omega
  ·obtain rfl : k = l.length := by omega
   have HY : Hid (lies f s l = true) := hL.out
   have HS : Hid (sumLen (l.take l.length) = sumLen l) := by show _ = _; rw [List.take_length]
   clear hL
   generalize sumLen (l.take l.length) = sm at *
   go_wp2_with fail
   go_ret2
   rw [HS.out]
   exact lieSays_yes HY.out hK
theorem cntF_or (f g : Nat → Bool) (k : Nat) (h : ∀ m, m < k → f m = true → g m = false) : cntF (fun m => f m || g m) k = cntF f k + cntF g k := by
 induction k with
 | zero => rfl
 | succ k ih =>
  have h1 := ih (fun m hm => h m (by omega))
  have h2 := h k (by omega)
  simp only [cntF, h1]
  by_cases hf : f k = true
  ·simp [hf, h2 hf]; omega
  ·by_cases hg : g k = true
   ·simp [hf, hg]; omega
   ·simp [hf, hg]
theorem cntF_none (k : Nat) : cntF (fun _ => false) k = 0 := by
 induction k with
 | zero => rfl
 | succ k ih => simp only [cntF, ih]; rfl
theorem cntF_run (a n k : Nat) : cntF (fun m => decide (a ≤ m ∧ m < a + n)) k = min k (a + n) - min k a := by
 induction k with
 | zero => simp [cntF]
 | succ k ih =>
  simp only [cntF, ih]
  by_cases h : a ≤ k ∧ k < a + n
  ·simp [h]; omega
  ·simp [h]; omega
theorem count_may {s : Int} {l : List (Int × Int)} (h : MayX 0 s l) (hs : s ≤ 8192) : (countL l : Int) = sumLen l := by
 unfold countL
 induction l with
 | nil =>
  have : cntF (hasB []) 8192 = 0 := cntF_none 8192
  rw [this]; rfl
 | cons r t ih =>
  obtain ⟨h1, h2⟩ := h
  obtain ⟨hp, ht⟩ := List.pairwise_cons.1 h2
  have hr := h1 r List.mem_cons_self
  unfold OkX at hr
  obtain ⟨a, ha⟩ := Int.eq_ofNat_of_zero_le hr.1
  obtain ⟨n, hn⟩ := Int.eq_ofNat_of_zero_le (show 0 ≤ r.2 by omega)
  have he : ∀ m, hasB (r :: t) m = (decide (a ≤ m ∧ m < a + n) || hasB t m) := fun m => by
   unfold hasB
   rw [List.any_cons]
   congr 1
   rw [ha, hn]
   by_cases hc : a ≤ m ∧ m < a + n
   ·rw [decide_eq_true hc, decide_eq_true (by omega), decide_eq_true (by omega)]; rfl
   ·rw [decide_eq_false hc]
    by_cases hc1 : a ≤ m
    ·rw [decide_eq_true (by omega), decide_eq_false (by omega)]; rfl
    ·rw [decide_eq_false (by omega)]; rfl
  have hcong := cntF_congr (f := hasB (r :: t)) (g := fun m => decide (a ≤ m ∧ m < a + n) || hasB t m) 8192 (fun m _ => he m)
  have hor := cntF_or (fun m => decide (a ≤ m ∧ m < a + n)) (hasB t) 8192 (fun m _ hm => by
   have hm := of_decide_eq_true hm
   cases hb : hasB t m
   ·rfl
   ·exfalso
    obtain ⟨x, hx, y1, y2⟩ := hasB_iff.1 hb
    have := hp x hx
    unfold ApartX at this
    omega)
  have hih := ih ⟨fun x hx => h1 x (List.mem_cons_of_mem _ hx), ht⟩
  have hrun := cntF_run a n 8192
  have hsl : sumLen (r :: t) = r.2 + sumLen t := by unfold sumLen; simp
  rw [hcong, hor, hrun, hsl]
  omega
def secsL (l : List (Int × Int)) : List Nat := (l.map fun r => (List.range r.2.toNat).map fun k => r.1.toNat + k).flatten
theorem secsL_cons (r : Int × Int) (l : List (Int × Int)) : secsL (r :: l) = ((List.range r.2.toNat).map fun k => r.1.toNat + k) ++ secsL l := rfl
theorem secsL_append (a b : List (Int × Int)) : secsL (a ++ b) = secsL a ++ secsL b := by unfold secsL; rw [List.map_append, List.flatten_append]
theorem secsL_take (l : List (Int × Int)) (k : Nat) (h : k < l.length) : secsL (l.take (k + 1)) = secsL (l.take k) ++ (List.range l[k].2.toNat).map fun j => l[k].1.toNat + j := by
 rw [List.take_succ_eq_append_getElem h, secsL_append]
 congr 1
 simp [secsL]
theorem secsL_len {s : Int} {l : List (Int × Int)} (h : ∀ a ∈ l, OkX 0 s a) : ((secsL l).length : Int) = sumLen l := by
 induction l with
 | nil => rfl
 | cons r t ih =>
  have hr := h r List.mem_cons_self
  unfold OkX at hr
  have hsl : sumLen (r :: t) = r.2 + sumLen t := by unfold sumLen; simp
  have := ih (fun x hx => h x (List.mem_cons_of_mem _ hx))
  rw [secsL_cons, List.length_append, List.length_map, List.length_range, hsl]
  omega
theorem secsL_mem {l : List (Int × Int)} {m : Nat} (hm : m ∈ secsL l) : ∃ r ∈ l, r.1.toNat ≤ m ∧ m < r.1.toNat + r.2.toNat := by
 unfold secsL at hm
 rw [List.mem_flatten] at hm
 obtain ⟨x, hx, hmx⟩ := hm
 obtain ⟨r, hr, rfl⟩ := List.mem_map.1 hx
 obtain ⟨k, hk, rfl⟩ := List.mem_map.1 hmx
 have := List.mem_range.1 hk
 exact ⟨r, hr, by omega, by omega⟩
theorem secsL_lt {s : Int} {l : List (Int × Int)} (h : ∀ a ∈ l, OkX 0 s a) {m : Nat} (hm : m ∈ secsL l) : (m : Int) < s := by
 obtain ⟨r, hr, h1, h2⟩ := secsL_mem hm
 have := h r hr
 unfold OkX at this
 omega
theorem secsL_nodup {s : Int} {l : List (Int × Int)} (h : MayX 0 s l) : (secsL l).Nodup := by
 induction l with
 | nil => exact List.nodup_nil
 | cons r t ih =>
  obtain ⟨h1, h2⟩ := h
  obtain ⟨hp, ht⟩ := List.pairwise_cons.1 h2
  have hr := h1 r List.mem_cons_self
  unfold OkX at hr
  rw [secsL_cons, List.nodup_append]
  refine ⟨?_, ih ⟨fun x hx => h1 x (List.mem_cons_of_mem _ hx), ht⟩, fun a ha b hb e => ?_⟩
  ·rw [List.nodup_iff_pairwise_ne, List.pairwise_map]
   exact (List.nodup_iff_pairwise_ne.1 List.nodup_range).imp (fun hne he => hne (by omega))
  ·subst e
   obtain ⟨k, hk, rfl⟩ := List.mem_map.1 ha
   have hk := List.mem_range.1 hk
   obtain ⟨x, hx, y1, y2⟩ := secsL_mem hb
   have hx2 := h1 x (List.mem_cons_of_mem _ hx)
   have hap := hp x hx
   unfold ApartX at hap
   unfold OkX at hx2
   omega
def FitX (l : List (Int × Int)) (n size : Int) : Prop := 0 ≤ size ∧ l.length ≤ 16 ∧ MayX 0 (min n 8192) l ∧ (countL l : Int) = need size
theorem FitX.secs {l : List (Int × Int)} {n size : Int} (h : FitX l n size) : ((secsL l).length : Int) = need size := by
 obtain ⟨h1, h2, h3, h4⟩ := h
 rw [secsL_len h3.1, ← count_may h3 (by omega), h4]
theorem FitX.lt {l : List (Int × Int)} {n size : Int} (h : FitX l n size) {m : Nat} (hm : m ∈ secsL l) : (m : Int) < n ∧ m < 8192 := by
 have := secsL_lt h.2.2.1.1 hm
 omega
def putL : List Nat → DK → List UInt8 → DK × Int
 | [], d, _ => (d, 0)
 | a :: t, d, s => if wCode d a (chunk s) = 0 then putL t (wNext d a (chunk s)) (s.drop 128) else (wNext d a (chunk s), wCode d a (chunk s))
open Classical in
noncomputable def putX (d : DK) (l : List (Int × Int)) (s : List UInt8) : DK × Int :=
 if FitX l d.stand.length s.length then (if d.down = true then (d, 90) else putL (secsL l) d s) else (d, 1)
def getL (d : DK) (al : List Nat) : List UInt8 := (al.map (seen d)).flatten
open Classical in
noncomputable def getCode (d : DK) (l : List (Int × Int)) (size : Int) : Int := if FitX l d.stand.length size then (if d.down = true then 90 else 0) else 1
open Classical in
noncomputable def getX (d : DK) (l : List (Int × Int)) (size : Int) : List UInt8 := if getCode d l size = 0 then (getL d (secsL l)).take size.toNat else []
theorem getL_len {d : DK} (hf : Fit d) {al : List Nat} (h : ∀ a ∈ al, a < d.stand.length) : (getL d al).length = 128 * al.length := by
 induction al with
 | nil => rfl
 | cons a t ih =>
  have e : getL d (a :: t) = seen d a ++ getL d t := rfl
  rw [e, List.length_append, seen_len hf (h a List.mem_cons_self), ih (fun x hx => h x (List.mem_cons_of_mem _ hx)), List.length_cons]
  omega
end Go.Proofs.YtdkimcnlhmhpgaaGreat

/- -/
namespace Go.Proofs.YtdkimcnlhmhpgaaGreat
open Go.RowKit Go.Shelf
attribute [local go_sem] Oper.semAt_some
def KpR (n₀ : Nat) (W W' : World) : Prop := Below n₀ W W' ∧ ∀ (k : Nat) cs f, W.heap[k]? = some (.cells cs 128 f) → W'.heap[k]? = some (.cells cs 128 f)
theorem KpR.trans {n₀ : Nat} {A B C : World} (h : KpR n₀ A B) (k : KpR n₀ B C) : KpR n₀ A C := ⟨h.1.trans k.1, fun i cs f hi => k.2 i cs f (h.2 i cs f hi)⟩
theorem KpR.turn {n₀ : Nat} {w : World} (hn : n₀ ≤ w.heap.size) (W : World) (l : Nat) (o o' : Obj) (hl : w.heap.size ≤ l) (h : W.heap[l]? = some o) (hc : o.isCells = false) (hw : o.isWalk = false) : KpR n₀ W (W.putObj l o') :=
 ⟨belowK_b hn W l o o' hl h hc hw, fun k cs f hk => by
  have hne : k ≠ l := fun e => by subst e; rw [h] at hk; cases hk; cases hc
  exact (World.putObj_heap_other (by omega)).trans hk⟩
theorem RunsIn.belowR {n₀ : Nat} {w w' : World} {v : Value} {l : List (Int × Int)} {lo hi : Nat} (h : RunsIn w v l lo hi) (k : Below n₀ w w') (hh : hi ≤ n₀) : RunsIn w' v l lo hi := by
 rcases h with h | ⟨b, off, c, h1, h2, h3, h4, h5, h6, h7, h8⟩
 ·exact Or.inl h
 ·refine Or.inr ⟨b, off, c, h1, fun i hi' => ?_, h3, h4, Nat.le_trans h5 k.size, h6, h7, h8⟩
  rw [k.cell (by show b < _; omega), k.cell (by show b < _; omega)]
  exact h2 i hi'
theorem secsL_pre (l : List (Int × Int)) (k : Nat) (h : k < l.length) (j : Nat) (hj : j ≤ l[k].2.toNat) : secsL (l.take k) ++ (List.range j).map (fun i => l[k].1.toNat + i) <+: secsL l := by
 have e : secsL l = secsL (l.take k) ++ ((List.range l[k].2.toNat).map (fun i => l[k].1.toNat + i) ++ secsL (l.drop (k + 1))) := by
  rw [← List.append_assoc, ← secsL_take l k h, ← secsL_append, List.take_append_drop]
 rw [e]
 refine List.prefix_append_right_inj _ |>.2 ?_
 refine List.IsPrefix.trans ?_ (List.prefix_append _ _)
 have : List.range j = (List.range l[k].2.toNat).take j := by rw [List.take_range, Nat.min_eq_left hj]
 rw [this, List.map_take]
 exact List.take_prefix _ _
set_option maxRecDepth 100000 in
set_option maxHeartbeats 2000000 in
theorem each1_in (n : Nat) (hn : 1 ≤ n) (l B1 B2 n₀ lo hi : Nat) (sv : Value) (rl : List (Int × Int)) (hm : MayX 0 8192 rl) (hrl : rl.length ≤ 1000000) (J Jx : List Nat → World → Prop) (W : World)
  (hJ : AbidesFrom W.heap.size J)
  (hY : ∀ pre x W1, J pre W1 → pre.length < (secsL rl).length → YieldAt Fence.wide (n - 1) Tryz.prog l #[.int .i64 ((x : Nat) : Int)] W1 fun e W' =>
   (e = .returned (.bool true) ∧ J (pre ++ [x]) W' ∧ KpR n₀ W1 W') ∨ (e = .returned (.bool false) ∧ Jx (pre ++ [x]) W'))
  (hB1 : W.cell? ⟨B1, 0, none⟩ = some (.bool true)) (hB2 : W.cell? ⟨B2, 0, none⟩ = some sv) (hR : RunsIn W sv rl lo hi) (hhi : hi ≤ n₀) (hn0 : n₀ ≤ W.heap.size) (h0 : J [] W) :
  CallsIn Fence.wide n Tryz.prog 179 #[.func (.yield l) #[] #[], .pointer (some ⟨B1, 0, none⟩), .pointer (some ⟨B2, 0, none⟩)] W fun e W' => (∃ v, e = .returned v) ∧
   ((∃ ys, ys = secsL rl ∧ J ys W') ∨ (∃ pre, pre <+: secsL rl ∧ Jx pre W')) := by
 obtain ⟨p, c, rfl⟩ := hR.shape
 refine callsIn_of_wp Tryz.func179 rfl trivial ?_ rfl
 simp only [Tryz.ntmps179, List.size_toArray, List.length_cons, List.length_nil, Nat.reduceAdd, Nat.reduceSub, Array.replicate_succ, Array.replicate_zero, List.push_toArray, List.append_toArray, List.nil_append, List.cons_append]
 gi_wp2
 gi_loopw [11] (fun i wr => ∃ k : Nat, k ≤ rl.length ∧ i = .int .i64 k ∧ J (secsL (rl.take k)) wr ∧ Below n₀ W wr) (fun i _ => rl.length - (intOf i).toNat)
 case atStart => exact ⟨0, Nat.zero_le _, rfl, h0, Below.refl _ _⟩
 case round =>
  obtain ⟨wo, rfl⟩ : ∃ wo : World, wo = wr := ⟨_, rfl⟩
  obtain ⟨k, hk, rfl, hJs, hB⟩ := hrel
  by_cases hlt : k < rl.length
  ·have hRw := hR.belowR hB hhi
   have htk := secsL_take rl k hlt
   have hpr := secsL_pre rl k hlt
   have hok := hm.1 _ (List.getElem_mem hlt)
   obtain ⟨b, off, rfl, c0, c1, hb, hlc, hcm⟩ := hRw.at_ k hlt
   unfold OkX at hok
   generalize rl[k] = r at *
   obtain ⟨ra, rn⟩ := r
   obtain ⟨o1, o2, o3, o4⟩ := hok
   simp only at o1 o2 o3 o4 c0 c1 htk hpr
   obtain ⟨a, rfl⟩ := Int.eq_ofNat_of_zero_le o1
   obtain ⟨m, rfl⟩ := Int.eq_ofNat_of_zero_le (show 0 ≤ rn by omega)
   simp only [Int.toNat_natCast] at htk hpr
   have hsz := hB.size
   have hJa := fun (o : Obj) => hJ _ wo (wo.alloc o) none hJs (World.grownBy_alloc wo o none) (fun r e => by cases e)
   have hBa := fun (o : Obj) => hB.alloc (by omega) o
   have i1 : (k : Int) < rl.length := by omega
   have oo := Own.new wo #[.int .i64 (a : Int), .int .i64 (m : Int)] 128
   have hJ0 := hJa (.cells #[.int .i64 (a : Int), .int .i64 (m : Int)] 128)
   have hB0 := hBa (.cells #[.int .i64 (a : Int), .int .i64 (m : Int)] 128)
   have hwk : wrap64 ((k : Int) + 1) = (k : Int) + 1 := IntWalk.wrap64_in _ (by omega)
   have HPR := Lib.hid hpr
   have HTK := Lib.hid htk
   have HY := Lib.hid hY
   have HJ0 := Lib.hid hJ0
   have HB0 := Lib.hid hB0
   have HOO := Lib.hid oo
   have HLT := Lib.hid hlt
   have HO := Lib.hid (And.intro o2 o4)
   clear hpr htk hY hm hJa hBa hJ hJs hB hR hRw hJ0 hB0 oo hlc hcm hhi hn0 hsz hb hrl hk o1 o2 o3 o4 hlt
   gi_wp2
   gi_loopw [17] (fun i wx => ∃ j : Nat, j ≤ m ∧ i = .int .i64 j ∧ J (secsL (rl.take k) ++ (List.range j).map (fun i => a + i)) wx ∧ Below n₀ W wx ∧ Own wx wo.heap.size #[.int .i64 (a : Int), .int .i64 (m : Int)] 128) (fun i _ => m - (intOf i).toNat)
   case atStart => exact ⟨0, Nat.zero_le _, rfl, by simpa using HJ0.out, HB0.out, HOO.out⟩
   case round =>
    obtain ⟨j, hj, rfl, hJx, hBx, ox⟩ := hrel
    obtain ⟨hr0, hr1⟩ := ox.c2
    by_cases hjm : j < m
    ·have hlen : (secsL (rl.take k) ++ (List.range j).map (fun i => a + i)).length < (secsL rl).length := by
      have := (HPR.out (j + 1) (by omega)).length_le
      simp only [List.length_append, List.length_map, List.length_range] at this ⊢
      omega
     have hsucc : (secsL (rl.take k) ++ (List.range j).map (fun i => a + i)) ++ [a + j] = secsL (rl.take k) ++ (List.range (j + 1)).map (fun i => a + i) := by
      rw [List.range_succ, List.map_append, List.append_assoc]; rfl
     obtain ⟨fn, tmps, assign, body, hy, hRd⟩ := HY.out _ (a + j) wr hJx hlen
     rw [hsucc] at hRd
     simp only [Int.natCast_add] at hy
     have i2 : (j : Int) < m := by omega
     have hwj : wrap64 ((j : Int) + 1) = (j : Int) + 1 := IntWalk.wrap64_in _ (by have := HO.out; omega)
     have hw : wrap64 ((a : Int) + (j : Int)) = (a : Int) + (j : Int) := IntWalk.wrap64_in _ (by have := HO.out; omega)
     have HJM := Lib.hid hjm
     have HBX := Lib.hid hBx
     have HOX := Lib.hid ox
     clear hlen hsucc hjm hj hBx ox hJx
     gi_wp2
     refine hRd.mono ?_
     rintro e W3 (⟨rfl, hJ3, hk3⟩ | ⟨rfl, hJx3⟩)
     ·gi_wp2
      go_roundw
      case rel => exact ⟨j + 1, HJM.out, by simp [hwj], hJ3, HBX.out.trans hk3.1, hk3.2 _ _ _ HOX.out⟩
      case measure => (have := HJM.out; simp only [hwj]; clear hwj hwk hw; simp [intOf]; omega)
     ·gi_wp2
      refine bodyPost_ret (results_none rfl _ _ _) rfl ?_
      exact ⟨⟨_, rfl⟩, .inr ⟨_, HPR.out (j + 1) HJM.out, hJx3⟩⟩
    ·obtain rfl : j = m := by omega
     gi_wp2
     go_roundw
     case rel => exact ⟨k + 1, HLT.out, by simp [hwk], by rw [HTK.out]; exact hJx, hBx⟩
     case measure => (have := HLT.out; simp only [hwk]; clear hwk; simp [intOf]; omega)
  ·obtain rfl : k = rl.length := by omega
   gi_wp2
   go_end0
   exact ⟨⟨_, rfl⟩, .inl ⟨_, by rw [List.take_length], hJs⟩⟩
end Go.Proofs.YtdkimcnlhmhpgaaGreat

/- -/
namespace Go.Proofs.YtdkimcnlhmhpgaaGreat
open Go.RowKit
theorem take_at {P : Program} {ops : Array Oper} {Q : Exit → Act → World → Prop} {md : Region.Mode} {S : World → Prop} {i : Nat} {oi : Oper} {v : Value} {d : Option Tmp} {fuel : Nat} {listed : Array Bool} {a : Act} {w : World} (hi : ops[i]? = some oi) (hd : oi.dst = d)
  (hs : Region.noSelect ops = true) (hf : Region.free md ops listed i = true) (hr : (Region.ready md ops listed).contains i = true)
  (hQ : ∀ c a w, Q (.panic c) (a.put d v) w → Q (.panic c) a w) (hy : YieldsIf P ops S oi v a) (hS : S w)
  (h : wpAnyH P md ops Q S fuel (listed.setIfInBounds i true) (a.put d v) w) : wpAnyH P md ops Q S (fuel + 1) listed a w := by
 subst hd
 exact wpAnyH_take hi hs hf hr hQ hy hS h
def OnlyN (F : Act → World → Prop) (e : Exit) (a : Act) (w : World) : Prop := e = .normal ∧ F a w
theorem wp_only {P : Program} {c : Code} {F K : Act → World → Prop} {Q : Exit → Act → World → Prop} {a : Act} {w : World} (h : c.wp P (OnlyN F) a w) (h2 : ∀ a w, F a w → K a w) : c.wp P (Exit.then K Q) a w :=
 wp_mono h (fun e a w he => by obtain ⟨rfl, hf⟩ := he; exact h2 a w hf)
def MayXSays (f s : Int) (l : List (Int × Int)) (w : World) (e : Ending) (w' : World) : Prop := ∃ r, e = .returned (.bool r) ∧ (r = true ↔ MayX f s l) ∧ Kept [] w w'
theorem mayXSays_no {f s : Int} {l : List (Int × Int)} {w w' : World} (h : ¬ MayX f s l) (k : Kept [] w w') : MayXSays f s l w (.returned (.bool false)) w' := ⟨false, rfl, ⟨fun q => (by cases q), fun q => absurd q h⟩, k⟩
theorem mayXSays_yes {f s : Int} {l : List (Int × Int)} {w w' : World} (h : MayX f s l) (k : Kept [] w w') : MayXSays f s l w (.returned (.bool true)) w' := ⟨true, rfl, ⟨fun _ => h, fun _ => rfl⟩, k⟩
end Go.Proofs.YtdkimcnlhmhpgaaGreat
