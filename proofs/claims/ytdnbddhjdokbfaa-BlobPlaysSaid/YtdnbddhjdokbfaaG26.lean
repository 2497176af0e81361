/- Layer 12 (blob): the sectors of runs, in order; what is put, got, copied: plain. -/
import Derived.Test.YtdnbddhjdokbfaaG13
import Derived.Test.YtdnbddhjdokbfaaG25
import Derived.RangeFuncNested
import Derived.RangeFuncLeaves
import Derived.RangeFuncCalls
import Derived.RangeFuncBox
import Derived.Shelf.Abstract
import Derived.WalkKit
import Derived.OwnWalkIn
import Derived.TacticsInMore
import Derived.LoopNIn
import Derived.LoopIn
import Derived.Maps.AppendAt
import Derived.Deep.RegionHeld3
namespace Go.Proofs.Ytdnbddhjdokbfaa
open Go.RowKit
set_option linter.unusedVariables false
set_option linter.unusedSimpArgs false

theorem cntF_or (f g : Nat → Bool) (k : Nat) (h : ∀ m, m < k → f m = true → g m = false) : cntF (fun m => f m || g m) k = cntF f k + cntF g k := by
  induction k with
  | zero => rfl
  | succ k ih =>
    have h1 := ih (fun m hm => h m (by omega))
    have h2 := h k (by omega)
    simp only [cntF, h1]
    by_cases hf : f k = true
    · simp [hf, h2 hf]; omega
    · by_cases hg : g k = true
      · simp [hf, hg]; omega
      · simp [hf, hg]
theorem cntF_none (k : Nat) : cntF (fun _ => false) k = 0 := by
  induction k with
  | zero => rfl
  | succ k ih => simp only [cntF, ih]; rfl
theorem cntF_run (a n k : Nat) : cntF (fun m => decide (a ≤ m ∧ m < a + n)) k = min k (a + n) - min k a := by
  induction k with
  | zero => simp [cntF]
  | succ k ih =>
    simp only [cntF, ih]
    by_cases h : a ≤ k ∧ k < a + n
    · simp [h]; omega
    · simp [h]; omega
/-- a list that may be has as many sectors as its runs are long. -/
theorem count_may {s : Int} {l : List (Int × Int)} (h : MayX 0 s l) (hs : s ≤ 8192) : (countL l : Int) = sumLen l := by
  unfold countL
  induction l with
  | nil =>
    have : cntF (hasB []) 8192 = 0 := cntF_none 8192
    rw [this]; rfl
  | cons r t ih =>
    obtain ⟨h1, h2⟩ := h
    obtain ⟨hp, ht⟩ := List.pairwise_cons.1 h2
    have hr := h1 r List.mem_cons_self
    unfold OkX at hr
    obtain ⟨a, ha⟩ := Int.eq_ofNat_of_zero_le hr.1
    obtain ⟨n, hn⟩ := Int.eq_ofNat_of_zero_le (show 0 ≤ r.2 by omega)
    have he : ∀ m, hasB (r :: t) m = (decide (a ≤ m ∧ m < a + n) || hasB t m) := fun m => by
      unfold hasB
      rw [List.any_cons]
      congr 1
      rw [ha, hn]
      by_cases hc : a ≤ m ∧ m < a + n
      · rw [decide_eq_true hc, decide_eq_true (by omega), decide_eq_true (by omega)]; rfl
      · rw [decide_eq_false hc]
        by_cases hc1 : a ≤ m
        · rw [decide_eq_true (by omega), decide_eq_false (by omega)]; rfl
        · rw [decide_eq_false (by omega)]; rfl
    have hcong := cntF_congr (f := hasB (r :: t)) (g := fun m => decide (a ≤ m ∧ m < a + n) || hasB t m) 8192 (fun m _ => he m)
    have hor := cntF_or (fun m => decide (a ≤ m ∧ m < a + n)) (hasB t) 8192 (fun m _ hm => by
      have hm := of_decide_eq_true hm
      cases hb : hasB t m
      · rfl
      · exfalso
        obtain ⟨x, hx, y1, y2⟩ := hasB_iff.1 hb
        have := hp x hx
        unfold ApartX at this
        omega)
    have hih := ih ⟨fun x hx => h1 x (List.mem_cons_of_mem _ hx), ht⟩
    have hrun := cntF_run a n 8192
    have hsl : sumLen (r :: t) = r.2 + sumLen t := by unfold sumLen; simp
    rw [hcong, hor, hrun, hsl]
    omega
/-- the sectors of runs, in order. -/
def secsL (l : List (Int × Int)) : List Nat := (l.map fun r => (List.range r.2.toNat).map fun k => r.1.toNat + k).flatten
theorem secsL_nil : secsL [] = [] := rfl
theorem secsL_cons (r : Int × Int) (l : List (Int × Int)) : secsL (r :: l) = ((List.range r.2.toNat).map fun k => r.1.toNat + k) ++ secsL l := rfl
theorem secsL_append (a b : List (Int × Int)) : secsL (a ++ b) = secsL a ++ secsL b := by unfold secsL; rw [List.map_append, List.flatten_append]
theorem secsL_take (l : List (Int × Int)) (k : Nat) (h : k < l.length) : secsL (l.take (k + 1)) = secsL (l.take k) ++ (List.range l[k].2.toNat).map fun j => l[k].1.toNat + j := by
  rw [List.take_succ_eq_append_getElem h, secsL_append]
  congr 1
  simp [secsL]
theorem secsL_len {s : Int} {l : List (Int × Int)} (h : ∀ a ∈ l, OkX 0 s a) : ((secsL l).length : Int) = sumLen l := by
  induction l with
  | nil => rfl
  | cons r t ih =>
    have hr := h r List.mem_cons_self
    unfold OkX at hr
    have hsl : sumLen (r :: t) = r.2 + sumLen t := by unfold sumLen; simp
    have := ih (fun x hx => h x (List.mem_cons_of_mem _ hx))
    rw [secsL_cons, List.length_append, List.length_map, List.length_range, hsl]
    omega
theorem secsL_mem {l : List (Int × Int)} {m : Nat} (hm : m ∈ secsL l) : ∃ r ∈ l, r.1.toNat ≤ m ∧ m < r.1.toNat + r.2.toNat := by
  unfold secsL at hm
  rw [List.mem_flatten] at hm
  obtain ⟨x, hx, hmx⟩ := hm
  obtain ⟨r, hr, rfl⟩ := List.mem_map.1 hx
  obtain ⟨k, hk, rfl⟩ := List.mem_map.1 hmx
  have := List.mem_range.1 hk
  exact ⟨r, hr, by omega, by omega⟩
theorem secsL_lt {s : Int} {l : List (Int × Int)} (h : ∀ a ∈ l, OkX 0 s a) {m : Nat} (hm : m ∈ secsL l) : (m : Int) < s := by
  obtain ⟨r, hr, h1, h2⟩ := secsL_mem hm
  have := h r hr
  unfold OkX at this
  omega
theorem secsL_has {s : Int} {l : List (Int × Int)} (h : ∀ a ∈ l, OkX 0 s a) {m : Nat} (hm : m ∈ secsL l) : hasB l m = true := by
  obtain ⟨r, hr, h1, h2⟩ := secsL_mem hm
  have := h r hr
  unfold OkX at this
  exact hasB_iff.2 ⟨r, hr, by omega, by omega⟩
theorem secsL_nodup {s : Int} {l : List (Int × Int)} (h : MayX 0 s l) : (secsL l).Nodup := by
  induction l with
  | nil => exact List.nodup_nil
  | cons r t ih =>
    obtain ⟨h1, h2⟩ := h
    obtain ⟨hp, ht⟩ := List.pairwise_cons.1 h2
    have hr := h1 r List.mem_cons_self
    unfold OkX at hr
    rw [secsL_cons, List.nodup_append]
    refine ⟨?_, ih ⟨fun x hx => h1 x (List.mem_cons_of_mem _ hx), ht⟩, fun a ha b hb e => ?_⟩
    · rw [List.nodup_iff_pairwise_ne, List.pairwise_map]
      exact (List.nodup_iff_pairwise_ne.1 List.nodup_range).imp (fun hne he => hne (by omega))
    · subst e
      obtain ⟨k, hk, rfl⟩ := List.mem_map.1 ha
      have hk := List.mem_range.1 hk
      obtain ⟨x, hx, y1, y2⟩ := secsL_mem hb
      have hx2 := h1 x (List.mem_cons_of_mem _ hx)
      have hap := hp x hx
      unfold ApartX at hap
      unfold OkX at hx2
      omega
/-- do runs fit a disk, and so many bytes? -/
def FitX (l : List (Int × Int)) (n size : Int) : Prop := 0 ≤ size ∧ l.length ≤ 16 ∧ MayX 0 (min n 8192) l ∧ (countL l : Int) = need size
theorem FitX.secs {l : List (Int × Int)} {n size : Int} (h : FitX l n size) : ((secsL l).length : Int) = need size := by
  obtain ⟨h1, h2, h3, h4⟩ := h
  rw [secsL_len h3.1, ← count_may h3 (by omega), h4]
theorem FitX.lt {l : List (Int × Int)} {n size : Int} (h : FitX l n size) {m : Nat} (hm : m ∈ secsL l) : (m : Int) < n ∧ m < 8192 := by
  have := secsL_lt h.2.2.1.1 hm
  omega
/-- bytes laid over sectors. -/
def putL : List Nat → DK → List UInt8 → DK × Int
  | [], d, _ => (d, 0)
  | a :: t, d, s => if wCode d a (chunk s) = 0 then putL t (wNext d a (chunk s)) (s.drop 128) else (wNext d a (chunk s), wCode d a (chunk s))
open Classical in
noncomputable def putX (d : DK) (l : List (Int × Int)) (s : List UInt8) : DK × Int :=
  if FitX l d.stand.length s.length then (if d.down = true then (d, 90) else putL (secsL l) d s) else (d, 1)
/-- what lies over sectors. -/
def getL (d : DK) (al : List Nat) : List UInt8 := (al.map (seen d)).flatten
open Classical in
noncomputable def getCode (d : DK) (l : List (Int × Int)) (size : Int) : Int := if FitX l d.stand.length size then (if d.down = true then 90 else 0) else 1
open Classical in
noncomputable def getX (d : DK) (l : List (Int × Int)) (size : Int) : List UInt8 := if getCode d l size = 0 then (getL d (secsL l)).take size.toNat else []
open Classical in
noncomputable def copyX (d : DK) (l m : List (Int × Int)) (size : Int) : DK × Int :=
  if FitX l d.stand.length size ∧ FitX m d.stand.length size ∧ countL (commonL l m) = 0 then (if getCode d l size = 0 then putX d m (getX d l size) else (d, getCode d l size)) else (d, 1)
theorem common_none {l m : List (Int × Int)} : (commonL l m).length = 0 ↔ countL (commonL l m) = 0 := by
  have h := canon_pl (fun k => hasB l k && hasB m k)
  have hp : Pl 0 (commonL l m) := h
  have hs : (countL (commonL l m) : Int) = sumLen (commonL l m) := by
    rw [← plain_sum, plain_self hp]
  constructor
  · intro h0
    have : commonL l m = [] := List.eq_nil_of_length_eq_zero h0
    rw [this] at hs ⊢
    have e : sumLen [] = 0 := rfl
    rw [e] at hs; omega
  · intro h0
    cases hc : commonL l m with
    | nil => rfl
    | cons r t =>
      exfalso
      rw [hc] at hs hp h0
      have hsl : sumLen (r :: t) = r.2 + sumLen t := by unfold sumLen; simp
      have hr := hp.mem List.mem_cons_self
      have ht : 0 ≤ sumLen t := by
        have : ∀ x ∈ t, 0 ≤ x.2 := fun x hx => by have := hp.mem (List.mem_cons_of_mem _ hx); omega
        clear hs hp hsl hr h0 hc
        induction t with
        | nil => exact Int.le_refl _
        | cons y u ih =>
          have e : sumLen (y :: u) = y.2 + sumLen u := by unfold sumLen; simp
          have h1 := this y List.mem_cons_self
          have h2 := ih (fun x hx => this x (List.mem_cons_of_mem _ hx))
          rw [e]; omega
      omega
theorem getL_len {d : DK} (hf : Fit d) {al : List Nat} (h : ∀ a ∈ al, a < d.stand.length) : (getL d al).length = 128 * al.length := by
  induction al with
  | nil => rfl
  | cons a t ih =>
    have e : getL d (a :: t) = seen d a ++ getL d t := rfl
    rw [e, List.length_append, seen_len hf (h a List.mem_cons_self), ih (fun x hx => h x (List.mem_cons_of_mem _ hx)), List.length_cons]
    omega
theorem getL_take (d : DK) (al : List Nat) (k : Nat) (h : k < al.length) : getL d (al.take (k + 1)) = getL d (al.take k) ++ seen d al[k] := by
  unfold getL
  rw [List.take_succ_eq_append_getElem h, List.map_append, List.flatten_append]
  simp
end Go.Proofs.Ytdnbddhjdokbfaa

/- Layer 12 (blob): the sectors of runs, told one by one: the program's iterator. -/
namespace Go.Proofs.Ytdnbddhjdokbfaa
open Go.RowKit Go.Shelf
set_option linter.unusedVariables false
set_option linter.unusedSimpArgs false
attribute [local go_sem] Oper.semAt_some

/-- what a round keeps: whatever lay below n₀, and runs. -/
def KpR (n₀ : Nat) (W W' : World) : Prop := Below n₀ W W' ∧ ∀ (k : Nat) cs f, W.heap[k]? = some (.cells cs 66 f) → W'.heap[k]? = some (.cells cs 66 f)
theorem KpR.trans {n₀ : Nat} {A B C : World} (h : KpR n₀ A B) (k : KpR n₀ B C) : KpR n₀ A C := ⟨h.1.trans k.1, fun i cs f hi => k.2 i cs f (h.2 i cs f hi)⟩
theorem KpR.turn {n₀ : Nat} {w : World} (hn : n₀ ≤ w.heap.size) (W : World) (l : Nat) (o o' : Obj) (hl : w.heap.size ≤ l) (h : W.heap[l]? = some o) (hc : o.isCells = false) (hw : o.isWalk = false) : KpR n₀ W (W.putObj l o') :=
  ⟨belowK_b hn W l o o' hl h hc hw, fun k cs f hk => by
    have hne : k ≠ l := fun e => by subst e; rw [h] at hk; cases hk; cases hc
    exact (World.putObj_heap_other (by omega)).trans hk⟩
theorem RunsIn.belowR {n₀ : Nat} {w w' : World} {v : Value} {l : List (Int × Int)} {lo hi : Nat} (h : RunsIn w v l lo hi) (k : Below n₀ w w') (hh : hi ≤ n₀) : RunsIn w' v l lo hi := by
  rcases h with h | ⟨b, off, c, h1, h2, h3, h4, h5, h6, h7, h8⟩
  · exact Or.inl h
  · refine Or.inr ⟨b, off, c, h1, fun i hi' => ?_, h3, h4, Nat.le_trans h5 k.size, h6, h7, h8⟩
    rw [k.cell (by show b < _; omega), k.cell (by show b < _; omega)]
    exact h2 i hi'
theorem secsL_pre (l : List (Int × Int)) (k : Nat) (h : k < l.length) (j : Nat) (hj : j ≤ l[k].2.toNat) : secsL (l.take k) ++ (List.range j).map (fun i => l[k].1.toNat + i) <+: secsL l := by
  have e : secsL l = secsL (l.take k) ++ ((List.range l[k].2.toNat).map (fun i => l[k].1.toNat + i) ++ secsL (l.drop (k + 1))) := by
    rw [← List.append_assoc, ← secsL_take l k h, ← secsL_append, List.take_append_drop]
  rw [e]
  refine List.prefix_append_right_inj _ |>.2 ?_
  refine List.IsPrefix.trans ?_ (List.prefix_append _ _)
  have : List.range j = (List.range l[k].2.toNat).take j := by rw [List.take_range, Nat.min_eq_left hj]
  rw [this, List.map_take]
  exact List.take_prefix _ _

set_option maxRecDepth 100000 in
set_option maxHeartbeats 2000000 in
theorem each1_in (n : Nat) (hn : 1 ≤ n) (l B1 B2 n₀ lo hi : Nat) (sv : Value) (rl : List (Int × Int)) (hm : MayX 0 8192 rl) (hrl : rl.length ≤ 1000000) (J Jx : List Nat → World → Prop) (W : World)
    (hJ : AbidesFrom W.heap.size J)
    (hY : ∀ pre x W1, J pre W1 → pre.length < (secsL rl).length → YieldAt Fence.wide (n - 1) Try.prog l #[.int .i64 ((x : Nat) : Int)] W1 fun e W' =>
      (e = .returned (.bool true) ∧ J (pre ++ [x]) W' ∧ KpR n₀ W1 W') ∨ (e = .returned (.bool false) ∧ Jx (pre ++ [x]) W'))
    (hB1 : W.cell? ⟨B1, 0, none⟩ = some (.bool true)) (hB2 : W.cell? ⟨B2, 0, none⟩ = some sv) (hR : RunsIn W sv rl lo hi) (hhi : hi ≤ n₀) (hn0 : n₀ ≤ W.heap.size) (h0 : J [] W) :
    CallsIn Fence.wide n Try.prog 57 #[.func (.yield l) #[] #[], .pointer (some ⟨B1, 0, none⟩), .pointer (some ⟨B2, 0, none⟩)] W fun e W' => (∃ v, e = .returned v) ∧
      ((∃ ys, ys = secsL rl ∧ J ys W') ∨ (∃ pre, pre <+: secsL rl ∧ Jx pre W')) := by
  obtain ⟨p, c, rfl⟩ := hR.shape
  refine callsIn_of_wp Try.func57 rfl trivial ?_ rfl
  simp only [Try.ntmps57, List.size_toArray, List.length_cons, List.length_nil, Nat.reduceAdd, Nat.reduceSub, Array.replicate_succ, Array.replicate_zero, List.push_toArray, List.append_toArray, List.nil_append, List.cons_append]
  gi_wp2
  gi_loopw [11] (fun i wr => ∃ k : Nat, k ≤ rl.length ∧ i = .int .i64 k ∧ J (secsL (rl.take k)) wr ∧ Below n₀ W wr) (fun i _ => rl.length - (intOf i).toNat)
  case atStart => exact ⟨0, Nat.zero_le _, rfl, h0, Below.refl _ _⟩
  case round =>
    obtain ⟨wo, rfl⟩ : ∃ wo : World, wo = wr := ⟨_, rfl⟩
    obtain ⟨k, hk, rfl, hJs, hB⟩ := hrel
    by_cases hlt : k < rl.length
    · have hRw := hR.belowR hB hhi
      have htk := secsL_take rl k hlt
      have hpr := secsL_pre rl k hlt
      have hok := hm.1 _ (List.getElem_mem hlt)
      obtain ⟨b, off, rfl, c0, c1, hb, hlc, hcm⟩ := hRw.at_ k hlt
      unfold OkX at hok
      generalize rl[k] = r at *
      obtain ⟨ra, rn⟩ := r
      obtain ⟨o1, o2, o3, o4⟩ := hok
      simp only at o1 o2 o3 o4 c0 c1 htk hpr
      obtain ⟨a, rfl⟩ := Int.eq_ofNat_of_zero_le o1
      obtain ⟨m, rfl⟩ := Int.eq_ofNat_of_zero_le (show 0 ≤ rn by omega)
      simp only [Int.toNat_natCast] at htk hpr
      have hsz := hB.size
      have hJa := fun (o : Obj) => hJ _ wo (wo.alloc o) none hJs (World.grownBy_alloc wo o none) (fun r e => by cases e)
      have hBa := fun (o : Obj) => hB.alloc (by omega) o
      have i1 : (k : Int) < rl.length := by omega
      have oo := Own.new wo #[.int .i64 (a : Int), .int .i64 (m : Int)] 66
      have hJ0 := hJa (.cells #[.int .i64 (a : Int), .int .i64 (m : Int)] 66)
      have hB0 := hBa (.cells #[.int .i64 (a : Int), .int .i64 (m : Int)] 66)
      have hwk : wrap64 ((k : Int) + 1) = (k : Int) + 1 := IntWalk.wrap64_in _ (by omega)
      have HPR := Lib.hid hpr
      have HTK := Lib.hid htk
      have HY := Lib.hid hY
      have HJ0 := Lib.hid hJ0
      have HB0 := Lib.hid hB0
      have HOO := Lib.hid oo
      have HLT := Lib.hid hlt
      have HO := Lib.hid (And.intro o2 o4)
      clear hpr htk hY hm hJa hBa hJ hJs hB hR hRw hJ0 hB0 oo hlc hcm hhi hn0 hsz hb hrl hk o1 o2 o3 o4 hlt
      gi_wp2
      gi_loopw [17] (fun i wx => ∃ j : Nat, j ≤ m ∧ i = .int .i64 j ∧ J (secsL (rl.take k) ++ (List.range j).map (fun i => a + i)) wx ∧ Below n₀ W wx ∧ Own wx wo.heap.size #[.int .i64 (a : Int), .int .i64 (m : Int)] 66) (fun i _ => m - (intOf i).toNat)
      case atStart => exact ⟨0, Nat.zero_le _, rfl, by simpa using HJ0.out, HB0.out, HOO.out⟩
      case round =>
        obtain ⟨j, hj, rfl, hJx, hBx, ox⟩ := hrel
        obtain ⟨hr0, hr1⟩ := ox.c2
        by_cases hjm : j < m
        · have hlen : (secsL (rl.take k) ++ (List.range j).map (fun i => a + i)).length < (secsL rl).length := by
            have := (HPR.out (j + 1) (by omega)).length_le
            simp only [List.length_append, List.length_map, List.length_range] at this ⊢
            omega
          have hsucc : (secsL (rl.take k) ++ (List.range j).map (fun i => a + i)) ++ [a + j] = secsL (rl.take k) ++ (List.range (j + 1)).map (fun i => a + i) := by
            rw [List.range_succ, List.map_append, List.append_assoc]; rfl
          obtain ⟨fn, tmps, assign, body, hy, hRd⟩ := HY.out _ (a + j) wr hJx hlen
          rw [hsucc] at hRd
          simp only [Int.natCast_add] at hy
          have i2 : (j : Int) < m := by omega
          have hwj : wrap64 ((j : Int) + 1) = (j : Int) + 1 := IntWalk.wrap64_in _ (by have := HO.out; omega)
          have hw : wrap64 ((a : Int) + (j : Int)) = (a : Int) + (j : Int) := IntWalk.wrap64_in _ (by have := HO.out; omega)
          have HJM := Lib.hid hjm
          have HBX := Lib.hid hBx
          have HOX := Lib.hid ox
          clear hlen hsucc hjm hj hBx ox hJx
          gi_wp2
          refine hRd.mono ?_
          rintro e W3 (⟨rfl, hJ3, hk3⟩ | ⟨rfl, hJx3⟩)
          · gi_wp2
            go_roundw
            case rel => exact ⟨j + 1, HJM.out, by simp [hwj], hJ3, HBX.out.trans hk3.1, hk3.2 _ _ _ HOX.out⟩
            case measure => (have := HJM.out; simp only [hwj]; clear hwj hwk hw; simp [intOf]; omega)
          · gi_wp2
            refine bodyPost_ret (results_none rfl _ _ _) rfl ?_
            exact ⟨⟨_, rfl⟩, .inr ⟨_, HPR.out (j + 1) HJM.out, hJx3⟩⟩
        · obtain rfl : j = m := by omega
          gi_wp2
          go_roundw
          case rel => exact ⟨k + 1, HLT.out, by simp [hwk], by rw [HTK.out]; exact hJx, hBx⟩
          case measure => (have := HLT.out; simp only [hwk]; clear hwk; simp [intOf]; omega)
    · obtain rfl : k = rl.length := by omega
      gi_wp2
      go_end0
      exact ⟨⟨_, rfl⟩, .inl ⟨_, by rw [List.take_length], hJs⟩⟩
end Go.Proofs.Ytdnbddhjdokbfaa

/- A drawn region walked by hand, operation by operation: what yields is taken first, its slot said; what is not wanted too. -/
namespace Go.Proofs.Ytdnbddhjdokbfaa
open Go.RowKit
theorem take_at {P : Program} {ops : Array Oper} {Q : Exit → Act → World → Prop} {md : Region.Mode} {S : World → Prop} {i : Nat} {oi : Oper} {v : Value} {d : Option Tmp} {fuel : Nat} {listed : Array Bool} {a : Act} {w : World} (hi : ops[i]? = some oi) (hd : oi.dst = d)
    (hs : Region.noSelect ops = true) (hf : Region.free md ops listed i = true) (hr : (Region.ready md ops listed).contains i = true)
    (hQ : ∀ c a w, Q (.panic c) (a.put d v) w → Q (.panic c) a w) (hy : YieldsIf P ops S oi v a) (hS : S w)
    (h : wpAnyH P md ops Q S fuel (listed.setIfInBounds i true) (a.put d v) w) : wpAnyH P md ops Q S (fuel + 1) listed a w := by
  subst hd
  exact wpAnyH_take hi hs hf hr hQ hy hS h
theorem ready_one {P : Program} {ops : Array Oper} {Q : Exit → Act → World → Prop} {md : Region.Mode} {S : World → Prop} {i : Nat} {oi : Oper} {d : Option Tmp} {fuel : Nat} {listed : Array Bool} {a : Act} {w : World} (hi : ops[i]? = some oi) (hd : oi.dst = d)
    (hr : Region.ready md ops listed = [i]) (hw : Region.wanted oi (yielded ops a.tmps) = true)
    (h : ∀ K : Act → World → Prop, Shut (∀ v w, S w → (S w → wpAnyH P md ops Q S fuel (listed.setIfInBounds i true) (a.put d v) w) → K (a.put d v) w) → Oper.wp P oi a w K Q) : wpAnyH P md ops Q S (fuel + 1) listed a w := by
  subst hd
  refine wpAnyH_ready hr (by simp) (AllReadyH.cons hi (fun K hK => ?_) AllReadyH.nil)
  rw [if_pos hw]
  exact h K (fun v w h1 h2 => hK (a.put oi.dst v) w h1 h2)
/-- the condition on the world may be taken narrower from here on. -/
theorem wpAnyH_mono {P : Program} {md : Region.Mode} {ops : Array Oper} {Q : Exit → Act → World → Prop} {S S2 : World → Prop} (hS : ∀ w, S2 w → S w) :
    ∀ (fuel : Nat) (listed : Array Bool) (a : Act) (w : World), wpAnyH P md ops Q S2 fuel listed a w → wpAnyH P md ops Q S fuel listed a w
  | 0, _, _, _, h => h
  | fuel + 1, _, _, _, h => ⟨h.1, fun i hi => wpOp_mono (fun a' w' h' => ⟨hS _ h'.1, wpAnyH_mono hS fuel _ a' w' h'.2⟩) (h.2 i hi)⟩
/-- a piece of code that does not leave but at its end. -/
def OnlyN (F : Act → World → Prop) (e : Exit) (a : Act) (w : World) : Prop := e = .normal ∧ F a w
theorem wp_only {P : Program} {c : Code} {F K : Act → World → Prop} {Q : Exit → Act → World → Prop} {a : Act} {w : World} (h : c.wp P (OnlyN F) a w) (h2 : ∀ a w, F a w → K a w) : c.wp P (Exit.then K Q) a w :=
  wp_mono h (fun e a w he => by obtain ⟨rfl, hf⟩ := he; exact h2 a w hf)
end Go.Proofs.Ytdnbddhjdokbfaa
