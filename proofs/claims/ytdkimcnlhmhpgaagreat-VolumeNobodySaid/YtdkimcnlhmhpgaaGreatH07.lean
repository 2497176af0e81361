/- -/
import Derived.Test.YtdkimcnlhmhpgaaGreatH01
import Derived.Test.YtdkimcnlhmhpgaaGreatH06
import Derived.Deep.RegionLaw
import Derived.Deep.QuietTactic
import Derived.BigQuiet
import Derived.Deep.CutBlock
import Derived.Deep.DeepCutAuto
set_option linter.unusedVariables false
set_option linter.unusedSimpArgs false
namespace Go.Proofs.YtdkimcnlhmhpgaaGreat
open Go.RowKit
def clipL (l : List (Int × Int)) : List (Int × Int) := l.filterMap fun a => if (clipOf a).2 = true then some (clipOf a).1 else none
theorem clipL_snoc (l : List (Int × Int)) (a : Int × Int) : clipL (l ++ [a]) = clipL l ++ (if (clipOf a).2 = true then [(clipOf a).1] else []) := by
 unfold clipL
 rw [List.filterMap_append]
 congr 1
 by_cases h : (clipOf a).2 = true
 ·simp [h]
 ·simp [h]
theorem clipL_len (l : List (Int × Int)) : (clipL l).length ≤ l.length := List.length_filterMap_le _ _
theorem clip_ok {a : Int × Int} (h : (clipOf a).2 = true) : 0 ≤ (clipOf a).1.1 ∧ 1 ≤ (clipOf a).1.2 ∧ (clipOf a).1.1 + (clipOf a).1.2 ≤ 8192 := by
 unfold clipOf at *
 by_cases h1 : a.2 < 1 ∨ 8192 ≤ a.1
 ·rw [if_pos h1] at h; cases h
 ·rw [if_neg h1] at h ⊢
  by_cases h2 : a.1 < 0
  ·rw [if_pos h2] at h ⊢
   have h := of_decide_eq_true h
   simp only
   omega
  ·rw [if_neg h2] at h ⊢
   have h := of_decide_eq_true h
   simp only
   omega
theorem clip_is (a : Int × Int) (k : Nat) (hk : k < 8192) : ((clipOf a).2 = true ∧ (clipOf a).1.1 ≤ k ∧ (k : Int) < (clipOf a).1.1 + (clipOf a).1.2) ↔ (a.1 ≤ k ∧ (k : Int) < a.1 + a.2) := by
 unfold clipOf
 by_cases h1 : a.2 < 1 ∨ 8192 ≤ a.1
 ·rw [if_pos h1]; simp; omega
 ·rw [if_neg h1]
  by_cases h2 : a.1 < 0
  ·rw [if_pos h2]; simp; omega
  ·rw [if_neg h2]; simp; omega
theorem clipL_mem {l : List (Int × Int)} {r : Int × Int} (h : r ∈ clipL l) : 0 ≤ r.1 ∧ 1 ≤ r.2 ∧ r.1 + r.2 ≤ 8192 := by
 unfold clipL at h
 rw [List.mem_filterMap] at h
 obtain ⟨a, _, ha⟩ := h
 by_cases hc : (clipOf a).2 = true
 ·rw [if_pos hc] at ha
  injection ha with ha
  subst ha
  exact clip_ok hc
 ·rw [if_neg hc] at ha; cases ha
theorem clipL_is (l : List (Int × Int)) (k : Nat) (hk : k < 8192) : inS (clipL l) k ↔ hasB l k = true := by
 rw [hasB_iff]
 unfold inS clipL
 constructor
 ·rintro ⟨r, hr, h1, h2⟩
  rw [List.mem_filterMap] at hr
  obtain ⟨a, ha, hx⟩ := hr
  by_cases hc : (clipOf a).2 = true
  ·rw [if_pos hc] at hx
   injection hx with hx
   subst hx
   exact ⟨a, ha, (clip_is a k hk).1 ⟨hc, h1, h2⟩⟩
  ·rw [if_neg hc] at hx; cases hx
 ·rintro ⟨a, ha, h⟩
  obtain ⟨h1, h2, h3⟩ := (clip_is a k hk).2 h
  exact ⟨(clipOf a).1, List.mem_filterMap.2 ⟨a, ha, by rw [if_pos h1]⟩, h2, h3⟩
def mstep (o : List (Int × Int)) (r : Int × Int) : List (Int × Int) :=
 match o.getLast? with
 | some q => if r.1 ≤ q.1 + q.2 then o.dropLast ++ [(q.1, max q.2 (r.1 + r.2 - q.1))] else o ++ [r]
 | none => [r]
theorem mstep_nil (r : Int × Int) : mstep [] r = [r] := rfl
theorem mstep_le {i : List (Int × Int)} {q r : Int × Int} (h : r.1 ≤ q.1 + q.2) : mstep (i ++ [q]) r = i ++ [(q.1, max q.2 (r.1 + r.2 - q.1))] := by
 unfold mstep
 rw [List.getLast?_append, List.dropLast_concat]
 show (if r.1 ≤ q.1 + q.2 then _ else _) = _
 rw [if_pos h]
 rfl
theorem mstep_gt {i : List (Int × Int)} {q r : Int × Int} (h : ¬ r.1 ≤ q.1 + q.2) : mstep (i ++ [q]) r = i ++ [q] ++ [r] := by
 unfold mstep
 rw [List.getLast?_append]
 show (if r.1 ≤ q.1 + q.2 then _ else _) = _
 rw [if_neg h]
def mergeTo (s : List (Int × Int)) (k : Nat) : List (Int × Int) := (s.take k).foldl mstep []
theorem mergeTo_succ (s : List (Int × Int)) (k : Nat) (h : k < s.length) : mergeTo s (k + 1) = mstep (mergeTo s k) s[k] := by
 unfold mergeTo; rw [List.take_succ_eq_append_getElem h, List.foldl_append]; rfl
structure MergeOk (s : List (Int × Int)) (k : Nat) : Prop where
 pl : Pl 0 (mergeTo s k)
 is : ∀ j : Int, inS (mergeTo s k) j ↔ inS (s.take k) j
 low : ∀ x ∈ mergeTo s k, ∃ y ∈ s.take k, x.1 = y.1
theorem merge_ok (s : List (Int × Int)) (hs : Rising s) (hr : ∀ r ∈ s, 0 ≤ r.1 ∧ 1 ≤ r.2 ∧ r.1 + r.2 ≤ 8192) (k : Nat) (hk : k ≤ s.length) : MergeOk s k := by
 induction k with
 | zero => exact ⟨trivial, fun j => Iff.rfl, fun x hx => by cases hx⟩
 | succ k ih =>
  obtain ⟨h1, h2, h3⟩ := ih (by omega)
  have hlt : k < s.length := by omega
  obtain ⟨r1, r2, r3⟩ := hr s[k] (List.getElem_mem _)
  have htk : s.take (k + 1) = s.take k ++ [s[k]] := List.take_succ_eq_append_getElem hlt
  have hlow : ∀ x ∈ mergeTo s k, x.1 ≤ s[k].1 := fun x hx => by
   obtain ⟨y, hy, e⟩ := h3 x hx
   rw [e]
   rw [List.mem_take_iff_getElem] at hy
   obtain ⟨i, hi, rfl⟩ := hy
   exact (List.pairwise_iff_getElem.1 hs) i k (by omega) hlt (by omega)
  have hms := mergeTo_succ s k hlt
  rcases List.eq_nil_or_concat (mergeTo s k) with e | ⟨i, q, e⟩
  ·rw [e, mstep_nil] at hms
   refine ⟨by rw [hms]; exact ⟨r1, r2, r3, trivial⟩, fun j => ?_, fun x hx => ?_⟩
   ·rw [hms, htk, inS_append, ← h2 j, e]
    exact ⟨fun h => Or.inr h, fun h => h.elim (fun h => absurd h (inS_nil j)) id⟩
   ·rw [hms] at hx
    have hx : x = s[k] := by simpa using hx
    exact ⟨s[k], by rw [htk]; exact List.mem_append_right _ (List.mem_singleton.2 rfl), by rw [hx]⟩
  ·rw [List.concat_eq_append] at e
   rw [e] at h1 hlow
   obtain ⟨q1, q2, q3, q4, q5⟩ := h1.init
   have hq := hlow q (by simp)
   by_cases hc : s[k].1 ≤ q.1 + q.2
   ·rw [e, mstep_le hc] at hms
    refine ⟨?_, fun j => ?_, fun x hx => ?_⟩
    ·rw [hms]
     exact q1.snoc q2 (by show 1 ≤ max q.2 _; omega) (by show q.1 + max q.2 _ ≤ 8192; omega) q5
    ·rw [hms, htk, inS_append, inS_append, ← h2 j, e, inS_append, inS_one, inS_one, inS_one, or_assoc]
     refine or_congr Iff.rfl ?_
     show (q.1 ≤ j ∧ j < q.1 + max q.2 (s[k].1 + s[k].2 - q.1)) ↔ _
     omega
    ·rw [hms] at hx
     rcases List.mem_append.1 hx with hx | hx
     ·obtain ⟨y, hy, e2⟩ := h3 x (by rw [e]; exact List.mem_append_left _ hx)
      exact ⟨y, by rw [htk]; exact List.mem_append_left _ hy, e2⟩
     ·obtain ⟨y, hy, e2⟩ := h3 q (by rw [e]; simp)
      have hx : x = (q.1, max q.2 (s[k].1 + s[k].2 - q.1)) := by simpa using hx
      exact ⟨y, by rw [htk]; exact List.mem_append_left _ hy, by rw [hx]; exact e2⟩
   ·rw [e, mstep_gt hc] at hms
    refine ⟨?_, fun j => ?_, fun x hx => ?_⟩
    ·rw [hms]
     refine h1.snoc r1 r2 r3 (fun x hx => ?_)
     rcases List.mem_append.1 hx with hx | hx
     ·have := q5 x hx; omega
     ·have hx : x = q := by simpa using hx
      subst hx; omega
    ·have h2j := h2 j
     rw [e] at h2j
     rw [hms, htk, inS_append, inS_append (a := s.take k), ← h2j]
    ·rw [hms] at hx
     rcases List.mem_append.1 hx with hx | hx
     ·obtain ⟨y, hy, e2⟩ := h3 x (by rw [e]; exact hx)
      exact ⟨y, by rw [htk]; exact List.mem_append_left _ hy, e2⟩
     ·have hx : x = s[k] := by simpa using hx
      exact ⟨s[k], by rw [htk]; exact List.mem_append_right _ (List.mem_singleton.2 rfl), by rw [hx]⟩
theorem merge_plain {l s : List (Int × Int)} (hp : s.Perm (clipL l)) (hs : Rising s) : mergeTo s s.length = plainL l := by
 have hr : ∀ r ∈ s, 0 ≤ r.1 ∧ 1 ≤ r.2 ∧ r.1 + r.2 ≤ 8192 := fun r h => clipL_mem (hp.mem_iff.1 h)
 have h := merge_ok s hs hr s.length (Nat.le_refl _)
 refine canon_eq h.pl (fun m hm => ?_)
 rw [h.is, List.take_length, ← clipL_is l m hm]
 unfold inS
 exact ⟨fun ⟨r, h1, h2⟩ => ⟨r, hp.mem_iff.1 h1, h2⟩, fun ⟨r, h1, h2⟩ => ⟨r, hp.mem_iff.2 h1, h2⟩⟩
theorem mergeTo_len (s : List (Int × Int)) (k : Nat) : (mergeTo s k).length ≤ k := by
 induction k with
 | zero => exact Nat.le_refl _
 | succ k ih =>
  by_cases h : k < s.length
  ·rw [mergeTo_succ s k h]
   rcases List.eq_nil_or_concat (mergeTo s k) with e | ⟨i, q, e⟩
   ·rw [e, mstep_nil]; simp
   ·rw [List.concat_eq_append] at e
    rw [e] at ih ⊢
    by_cases hc : s[k].1 ≤ q.1 + q.2
    ·rw [mstep_le hc]; simp at ih ⊢; omega
    ·rw [mstep_gt hc]; simp at ih ⊢; omega
  ·have e : mergeTo s (k + 1) = mergeTo s k := by unfold mergeTo; rw [List.take_of_length_le (by omega), List.take_of_length_le (by omega)]
   rw [e]; omega
theorem rcells_last (I : List (Int × Int)) (a n n' : Int) : (rcells (I ++ [(a, n)])).set (I.length * 2 + 1) (.int .i64 n') = rcells (I ++ [(a, n')]) := by
 rw [rcells_snoc, rcells_snoc, List.set_append_right _ _ (by rw [rcells_len]; omega), rcells_len]
 have e : I.length * 2 + 1 - I.length * 2 = 1 := by omega
 rw [e]
 rfl
theorem rcells_at_last (I : List (Int × Int)) (q : Int × Int) : (rcells (I ++ [q]))[I.length * 2]? = some (.int .i64 q.1) ∧ (rcells (I ++ [q]))[I.length * 2 + 1]? = some (.int .i64 q.2) := by
 have h := rcells_get (I ++ [q]) I.length (by simp)
 simpa using h
theorem ownsRow_drewN {w : World} {base : Nat} {e : TypeId} {size : Nat} {v : Value} {n : Nat} {xs : List Value} (h : w.ownsRow base e size v n xs) (k : Nat) : (w.drewN k).ownsRow base e size v n xs := h
def GivesR (p : List (Int × Int)) (w : World) (e : Ending) (w' : World) : Prop :=
 ∃ v, e = .returned v ∧ w'.ownsRow w.heap.size 128 2 v p.length (rcells p) ∧ Kept [] w w'
theorem GivesR.runs {p : List (Int × Int)} {w w' : World} {e : Ending} (h : GivesR p w e w') : ∃ v, e = .returned v ∧ RunsIn w' v p w.heap.size w'.heap.size ∧ Kept [] w w' := by
 obtain ⟨v, h1, h2, h3⟩ := h; exact ⟨v, h1, RunsIn.of_own h2, h3⟩
set_option maxRecDepth 100000 in
set_option maxHeartbeats 4000000 in
theorem xplain (v : Value) (l : List (Int × Int)) (lo hi : Nat) (w : World) (h : RunsIn w v l lo hi) (hl : l.length ≤ 1000000) (hwf : ∀ a ∈ l, WfRun a) :
  Calls Tryz.prog 112 #[v] w (GivesR (plainL l) w) := by
 obtain ⟨i0, q0, q1, q2, q3⟩ := infoRun
 obtain ⟨p, c, rfl⟩ := h.shape
 have H := Lib.hid h
 have HWF := Lib.hid hwf
 have hl' : (l.length : Int) ≤ 1000000 := by omega
 unfold GivesR
 clear h hwf
 go_enter Tryz.func112, Tryz.ntmps112
 go_upto_block 0 with fail
 go_cut [3] (fun v3 wx => wx.ownsRow w.heap.size 128 2 v3 (clipL l).length (rcells (clipL l)) ∧ Kept [] w wx)
 case first =>
  go_wp2_with fail
  go_loopw [3, 14] (fun v3 i wr => ∃ k : Nat, k ≤ l.length ∧ i = .int .i64 k ∧ wr.ownsRow w.heap.size 128 2 v3 (clipL (l.take k)).length (rcells (clipL (l.take k))) ∧ Kept [] w wr) (fun _ i _ => l.length - (intOf i).toNat)
  case atStart => exact ⟨0, by omega, rfl, World.ownsRow_nil _ _ _ _, Kept.refl _ _⟩
  case round =>
   obtain ⟨k, hk, rfl, hrow, hK⟩ := hrel
   by_cases hlt : k < l.length
   ·obtain ⟨b, off, rfl, c0, c1, hb, hlc, hcm⟩ := (H.out.kept0 hK).at_ k hlt
    have hwa := HWF.out l[k] (List.getElem_mem hlt)
    have hsn : clipL (l.take (k + 1)) = clipL (l.take k) ++ (if (clipOf l[k]).2 = true then [(clipOf l[k]).1] else []) := by rw [List.take_succ_eq_append_getElem hlt, clipL_snoc]
    have hcl : (clipL (l.take k)).length ≤ 1000000 := by
     have := clipL_len (l.take k)
     have := List.length_take_le k l
     omega
    have hx := fun W => xclip l[k] W hwa
    have HX := Lib.hid hx
    have HSN := Lib.hid hsn
    have HLT := Lib.hid hlt
    have i1 : (k : Int) < l.length := by omega
    have r3 : (clipL (l.take k)).length + 1 ≤ maxLen := by unfold maxLen; omega
    have r4 : ((clipL (l.take k)).length + 1) * 16 ≤ 140737488355328 := by omega
    unfold ClipSays at HX
    clear hx hsn hwa
    generalize hCL : clipL (l.take k) = CL at *
    have HCL := Lib.hid hCL
    clear hCL
    generalize hcc : clipOf l[k] = cc at *
    have HCC := Lib.hid hcc
    clear hcc
    obtain ⟨⟨cx, cn⟩, ok⟩ := cc
    simp only at HX HSN
    cases ok with
    | false =>
     go_wp2_with fail
     refine (HX.out _).mono ?_; rintro e w2 ⟨rfl, k2⟩
     have K2 : Kept [] w w2 := (hK.alloc _).trans k2
     have hrow2 := ownsRow_kept (World.ownsRow.alloc hrow _) k2 (fun x hx => by cases hx)
     go_wp2_with fail
     go_roundw
     case rel => exact ⟨k + 1, HLT.out, by go_num, by rw [HSN.out]; simpa using World.ownsRow.alloc hrow2 _, K2.alloc _⟩
     case measure => (have hh := HLT.out; simp [intOf]; omega)
    | true =>
     obtain ⟨p3, c3, rfl⟩ := own_shape hrow
     go_wp2_with fail
     refine (HX.out _).mono ?_; rintro e w2 ⟨rfl, k2⟩
     have K2 : Kept [] w w2 := (hK.alloc _).trans k2
     have hrow2 := ownsRow_kept (World.ownsRow.alloc hrow (.cells #[.int .i64 l[k].1, .int .i64 l[k].2] 128)) k2 (fun x hx => by cases hx)
     have hs2 := K2.size
     clear hrow k2 c0 c1
     go_wp2_with (at_builtin; go_must (refine wpList_append_own_at _ rfl (.tmp 24) (.tmp 26) 56 rfl w.heap.size 128 i0 (.agg #[.int .i64 0, .int .i64 0]) 2 16 Tryz.underlying56 q0 q1 q2 q3 rfl (by decide) _ _ _ rfl (World.ownsRow.alloc (World.ownsRow.alloc hrow2 _) _) ⟨w2.heap.size + 1, 0, none⟩ 1 1 [.int .i64 cx, .int .i64 cn] rfl rfl ?_ ?_ r3 r4 ?_ ?_))
     ·have hnb : ((w2.alloc (.cells #[.int .i64 cx, .int .i64 cn] 128)).alloc (.cells #[.int .i64 cx, .int .i64 cn] 128)).heap[w2.heap.size + 1]? = some (.cells #[.int .i64 cx, .int .i64 cn] 128 (0, 0)) := by
       have := heap_alloc_new (w2.alloc (.cells #[.int .i64 cx, .int .i64 cn] 128)) (.cells #[.int .i64 cx, .int .i64 cn] 128)
       rw [World.size_alloc] at this
       exact this
      exact World.news_of_block hnb
     ·intro u hu; simp at hu; rcases hu with rfl | rfl <;> rfl
     ·simp; omega
     intro v6 w6 o6 gr6 _ _
     have k6 : Kept [] w w6 := ((K2.alloc _).alloc _).grown gr6 (fun g hg => Or.inr (World.ownsRow.lt hrow2 g hg).1)
     have HO6 := Lib.hid o6
     clear gr6 hrow2 o6
     go_wp2_with fail
     go_roundw
     case rel => exact ⟨k + 1, HLT.out, by go_num, by rw [HSN.out]; simpa [rcells_snoc] using HO6.out, k6⟩
     case measure => (have hh := HLT.out; simp [intOf]; omega)
   ·obtain rfl : k = l.length := by omega
    rw [List.take_length] at hrow
    go_wp2_with fail
    go_meet
    exact ⟨hrow, hK⟩
 case rest =>
  obtain ⟨hrow, hK⟩ := hcut
  have hcl := clipL_len l
  have hso := xsort1 w.heap.size _ (clipL l) wc hrow (by omega)
  unfold SortSays at hso
  obtain ⟨N, hN⟩ : ∃ N, N = (clipL l).length := ⟨_, rfl⟩
  rw [← hN] at hrow hso hcl
  have HN := Lib.hid hN
  clear hN
  have HSO := Lib.hid hso
  obtain ⟨p3, c3, rfl⟩ := own_shape hrow
  clear hso hrow
  go_wp2_with fail
  refine HSO.out.mono ?_; rintro e w3 ⟨rfl, s, hperm, hris, hs3, k3⟩
  have K3 : Kept [] w w3 := by
   rcases hs3.2 with ⟨e1, _⟩ | ⟨g, cap, cur, e1, hb, _⟩
   ·exact hK.call (k3 [] (fun g hg => by rw [e1] at hg; simp [Value.ownBlock] at hg)) (fun x hx => by cases hx)
   ·refine hK.call (k3 [g] (fun g' hg => ?_)) (fun x hx => Or.inr ?_)
    ·rw [e1] at hg
     have : g = g' := by simpa [Value.ownBlock] using hg
     simp [this]
    ·have hx : x = g := by simpa using hx
     omega
  have hsl : N = s.length := by rw [HN.out]; exact hperm.length_eq.symm
  clear HN
  subst hsl
  have hmp := merge_plain hperm hris
  have hrs : ∀ r ∈ s, 0 ≤ r.1 ∧ 1 ≤ r.2 ∧ r.1 + r.2 ≤ 8192 := fun r hr => clipL_mem (hperm.mem_iff.1 hr)
  have hmo := fun k hk => merge_ok s hris hrs k hk
  have hS := RunsIn.of_own hs3
  have HMP := Lib.hid hmp
  have HS := Lib.hid hS
  have HMO := Lib.hid hmo
  have HRS := Lib.hid hrs
  clear hS hmo hrs hmp hperm hris hs3 k3 HSO hK
  have hsl2 : s.length ≤ 1000000 := by omega
  have j1 : (s.length : Int) ≤ 1000000 := by omega
  have hw3 := K3.size
  go_wp2_with fail
  go_loopw [4, 33] (fun v4 i wr => ∃ k : Nat, k ≤ s.length ∧ i = .int .i64 k ∧ wr.ownsRow w3.heap.size 128 2 v4 (mergeTo s k).length (rcells (mergeTo s k)) ∧ Kept [] w3 wr) (fun _ i _ => s.length - (intOf i).toNat)
  case atStart => exact ⟨0, by omega, rfl, World.ownsRow_nil _ _ _ _, Kept.refl _ _⟩
  case round =>
   obtain ⟨k, hk, rfl, hrow, hK⟩ := hrel
   by_cases hlt : k < s.length
   ·obtain ⟨sb, soff, rfl, c0, c1, hb, hlc, hcm⟩ := (HS.out.kept0 hK).at_ k hlt
    obtain ⟨r1, r2, r3⟩ := HRS.out s[k] (List.getElem_mem _)
    have hms := mergeTo_succ s k hlt
    have hml := mergeTo_len s k
    have HMS := Lib.hid hms
    have HLT := Lib.hid hlt
    have i1 : (k : Int) < s.length := by omega
    have hpl := (HMO.out k hk).pl
    have HPL := Lib.hid hpl
    clear hms hpl
    generalize hM : mergeTo s k = M at *
    have HM := Lib.hid hM
    clear hM
    generalize s[k] = r at *
    have q3' : M.length + 1 ≤ maxLen := by unfold maxLen; omega
    have q4' : (M.length + 1) * 16 ≤ 140737488355328 := by omega
    have hKa := hK.alloc (.cells #[.int .i64 r.1, .int .i64 r.2] 128)
    have hs2 := hK.size
    rcases List.eq_nil_or_concat M with e | ⟨I, q, e⟩
    ·subst e
     rw [mstep_nil] at HMS
     obtain ⟨p4, c4, rfl⟩ := own_shape hrow
     go_wp2_with fail
     go_quiet (fail)
     go_wp2_with (at_builtin; go_must (refine wpList_append_own_at _ rfl (.tmp 83) (.tmp 85) 56 rfl w3.heap.size 128 i0 (.agg #[.int .i64 0, .int .i64 0]) 2 16 Tryz.underlying56 q0 q1 q2 q3 rfl (by decide) _ _ _ rfl (World.ownsRow.alloc (ownsRow_drewN (World.ownsRow.alloc hrow _) _) _) ⟨wr.heap.size + 1, 0, none⟩ 1 1 [.int .i64 r.1, .int .i64 r.2] rfl rfl ?_ ?_ q3' q4' ?_ ?_))
     ·have hnb : (((wr.alloc (.cells #[.int .i64 r.1, .int .i64 r.2] 128)).drewN nq).alloc (.cells #[.int .i64 r.1, .int .i64 r.2] 128)).heap[wr.heap.size + 1]? = some (.cells #[.int .i64 r.1, .int .i64 r.2] 128 (0, 0)) := by
       have := heap_alloc_new (wr.alloc (.cells #[.int .i64 r.1, .int .i64 r.2] 128)) (.cells #[.int .i64 r.1, .int .i64 r.2] 128)
       rw [World.size_alloc] at this
       exact this
      exact World.news_of_block hnb
     ·intro u hu; simp at hu; rcases hu with rfl | rfl <;> rfl
     ·simp; omega
     intro v6 w6 o6 gr6 _ _
     have k6 : Kept [] w3 w6 := ((hKa.drewN _).alloc _).grown gr6 (fun g hg => Or.inr (World.ownsRow.lt hrow g hg).1)
     have HO6 := Lib.hid o6
     clear gr6 hrow o6
     go_wp2_with fail
     go_roundw
     case rel => exact ⟨k + 1, HLT.out, by go_num, by rw [HMS.out]; simpa [rcells] using HO6.out, k6⟩
     case measure => (have hh := HLT.out; simp [intOf]; omega)
    ·rw [List.concat_eq_append] at e
     subst e
     have hml2 : (I ++ [q]).length = I.length + 1 := by simp
     rw [hml2] at hrow q3' q4' hml
     obtain ⟨g, c4, rfl, hg1, hg2, hg3, hg4, hgc⟩ := ownsRow_at hrow (by omega)
     obtain ⟨u1, u2⟩ := rcells_at_last I q
     have e0 := hgc _ _ u1
     have e1 := hgc _ _ u2
     obtain ⟨p1, p2, p3, p4, p5⟩ := HPL.out.init
     have i2 : (I.length : Int) ≤ 1000000 := by omega
     clear hgc u1 u2 hml2
     by_cases hc : r.1 ≤ q.1 + q.2
     ·rw [mstep_le hc] at HMS
      have z1 := World.ownsRow.frozenAt hrow (I.length * 2 + 1)
      rcases (by omega : q.2 ≤ r.1 + r.2 - q.1 ∨ r.1 + r.2 - q.1 < q.2) with hm | hm
      ·have hmx : max q.2 (r.1 + r.2 - q.1) = r.1 + r.2 - q.1 := by omega
       rw [hmx] at HMS
       go_wp2_with fail
       go_quiet (fail)
       go_wp2_with fail
       go_region
       all_goals
        have hst := (World.ownsRow.stored hrow (I.length * 2 + 1) (.int .i64 (r.1 + r.2 - q.1))).1
        rw [show q = (q.1, q.2) from rfl, rcells_last] at hst
        have e9 : (I ++ [(q.1, r.1 + r.2 - q.1)]).length = I.length + 1 := by simp
        have HST := Lib.hid hst
        have hkf := (hKa.drewN (nq + 1)).setCell (p := ⟨g, I.length * 2 + 1, none⟩) (Or.inr hg1) (.int .i64 (r.1 + r.2 - q.1))
        have hrow9 := (World.ownsRow.stored (ownsRow_drewN (World.ownsRow.alloc hrow (.cells #[.int .i64 r.1, .int .i64 r.2] 128)) (nq + 1)) (I.length * 2 + 1) (.int .i64 (r.1 + r.2 - q.1))).1
        rw [show q = (q.1, q.2) from rfl, rcells_last] at hrow9
        have HR9 := Lib.hid hrow9
        clear hst hrow hrow9
        go_wp2_with fail
        go_roundw
        case rel => exact ⟨k + 1, HLT.out, by go_num, by rw [HMS.out, e9]; exact HR9.out, hkf⟩
        case measure => (have hh := HLT.out; simp [intOf]; omega)
      ·have hmx : max q.2 (r.1 + r.2 - q.1) = q.2 := by omega
       rw [hmx] at HMS
       go_wp2_with fail
       go_quiet (fail)
       go_wp2_with fail
       go_region
       all_goals
        have hst := (World.ownsRow.stored hrow (I.length * 2 + 1) (.int .i64 (q.2))).1
        rw [show q = (q.1, q.2) from rfl, rcells_last] at hst
        have e9 : (I ++ [(q.1, q.2)]).length = I.length + 1 := by simp
        have HST := Lib.hid hst
        have hkf := (hKa.drewN (nq + 1)).setCell (p := ⟨g, I.length * 2 + 1, none⟩) (Or.inr hg1) (.int .i64 (q.2))
        have hrow9 := (World.ownsRow.stored (ownsRow_drewN (World.ownsRow.alloc hrow (.cells #[.int .i64 r.1, .int .i64 r.2] 128)) (nq + 1)) (I.length * 2 + 1) (.int .i64 (q.2))).1
        rw [show q = (q.1, q.2) from rfl, rcells_last] at hrow9
        have HR9 := Lib.hid hrow9
        clear hst hrow hrow9
        go_wp2_with fail
        go_roundw
        case rel => exact ⟨k + 1, HLT.out, by go_num, by rw [HMS.out, e9]; exact HR9.out, hkf⟩
        case measure => (have hh := HLT.out; simp [intOf]; omega)
     ·rw [mstep_gt hc] at HMS
      go_wp2_with fail
      go_quiet (fail)
      go_wp2_with (at_builtin; go_must (refine wpList_append_own_at _ rfl (.tmp 83) (.tmp 85) 56 rfl w3.heap.size 128 i0 (.agg #[.int .i64 0, .int .i64 0]) 2 16 Tryz.underlying56 q0 q1 q2 q3 rfl (by decide) _ _ _ rfl (World.ownsRow.alloc (ownsRow_drewN (World.ownsRow.alloc hrow _) _) _) ⟨wr.heap.size + 1, 0, none⟩ 1 1 [.int .i64 r.1, .int .i64 r.2] rfl rfl ?_ ?_ q3' q4' ?_ ?_))
      ·have hnb : (((wr.alloc (.cells #[.int .i64 r.1, .int .i64 r.2] 128)).drewN nq).alloc (.cells #[.int .i64 r.1, .int .i64 r.2] 128)).heap[wr.heap.size + 1]? = some (.cells #[.int .i64 r.1, .int .i64 r.2] 128 (0, 0)) := by
        have := heap_alloc_new (wr.alloc (.cells #[.int .i64 r.1, .int .i64 r.2] 128)) (.cells #[.int .i64 r.1, .int .i64 r.2] 128)
        rw [World.size_alloc] at this
        exact this
       exact World.news_of_block hnb
      ·intro u hu; simp at hu; rcases hu with rfl | rfl <;> rfl
      ·simp; omega
      intro v6 w6 o6 gr6 _ _
      have k6 : Kept [] w3 w6 := ((hKa.drewN _).alloc _).grown gr6 (fun g hg => Or.inr (World.ownsRow.lt hrow g hg).1)
      have o7 : w6.ownsRow w3.heap.size 128 2 v6 (I ++ [q] ++ [r]).length (rcells (I ++ [q] ++ [r])) := by
       have e9 : (I ++ [q] ++ [r]).length = I.length + 1 + 1 := by simp
       rw [rcells_snoc (I ++ [q]) r, e9]; exact o6
      have HO7 := Lib.hid o7
      clear gr6 hrow o6 o7
      go_wp2_with fail
      go_roundw
      case rel => exact ⟨k + 1, HLT.out, by go_num, by rw [HMS.out]; exact HO7.out, k6⟩
      case measure => (have hh := HLT.out; simp [intOf]; omega)
   ·obtain rfl : k = s.length := by omega
    rw [HMP.out] at hrow
    have HR := Lib.hid hrow
    clear hrow
    go_wp2_with fail
    go_ret
    exact ⟨_, rfl, ownsRow_base HR.out hw3, K3.trans hK⟩
structure ComInv (x y out : List (Int × Int)) (i k : Nat) : Prop where
 hi : i ≤ x.length
 hk : k ≤ y.length
 pl : Pl 0 out
 is : ∃ T : Int, (∀ j, inS out j ↔ inS x j ∧ inS y j ∧ j < T) ∧ (∀ j, T ≤ j → inS x j → inS (x.drop i) j) ∧ (∀ j, T ≤ j → inS y j → inS (y.drop k) j)
 gap : ∀ r ∈ out, (∀ q ∈ x.drop i, r.1 + r.2 + 1 ≤ q.1) ∨ (∀ q ∈ y.drop k, r.1 + r.2 + 1 ≤ q.1)
theorem com_start {x y : List (Int × Int)} (hx : Pl 0 x) (hy : Pl 0 y) : ComInv x y [] 0 0 :=
 ⟨Nat.zero_le _, Nat.zero_le _, trivial, ⟨0, fun j => ⟨fun h => absurd h (inS_nil j), fun ⟨h1, _, h2⟩ => by have := (hx.ge h1).1; omega⟩, fun j _ h => h, fun j _ h => h⟩, fun r hr => by cases hr⟩
theorem mem_drop_le {l : List (Int × Int)} {i : Nat} {q : Int × Int} (h : q ∈ l.drop (i + 1)) : q ∈ l.drop i := by
 rw [← List.drop_drop] at h
 exact List.mem_of_mem_drop h
theorem drop_ge {x : List (Int × Int)} (hx : Pl 0 x) {i : Nat} (hi : i < x.length) {q : Int × Int} (h : q ∈ x.drop (i + 1)) : x[i].1 + x[i].2 + 1 ≤ q.1 := ((hx.next i hi).mem h).1
theorem in_drop {x : List (Int × Int)} {i : Nat} (hi : i < x.length) (j : Int) : inS (x.drop i) j ↔ (x[i].1 ≤ j ∧ j < x[i].1 + x[i].2) ∨ inS (x.drop (i + 1)) j := by
 rw [List.drop_eq_getElem_cons hi, inS_cons]
theorem pl_at {x : List (Int × Int)} (hx : Pl 0 x) {i : Nat} (hi : i < x.length) : 0 ≤ x[i].1 ∧ 1 ≤ x[i].2 ∧ x[i].1 + x[i].2 ≤ 8192 := hx.mem (List.getElem_mem hi)
theorem com_step {x y out : List (Int × Int)} {i k : Nat} (hx : Pl 0 x) (hy : Pl 0 y) (h : ComInv x y out i k) (hi : i < x.length) (hk : k < y.length) (lo hi' : Int) (elo : lo = max x[i].1 y[k].1) (ehi : hi' = min (x[i].1 + x[i].2) (y[k].1 + y[k].2)) (i' k' : Nat)
  (hik : (x[i].1 + x[i].2 = hi' ∧ i' = i + 1 ∧ k' = k) ∨ (x[i].1 + x[i].2 ≠ hi' ∧ i' = i ∧ k' = k + 1)) : ComInv x y (if lo < hi' then out ++ [(lo, hi' - lo)] else out) i' k' := by
 obtain ⟨a1, a2, a3⟩ := pl_at hx hi
 obtain ⟨b1, b2, b3⟩ := pl_at hy hk
 obtain ⟨_, _, pl, ⟨T, h1, h2, h3⟩, gap⟩ := h
 have dx := fun j => in_drop hi j
 have dy := fun j => in_drop hk j
 have gx : ∀ j, inS (x.drop (i + 1)) j → x[i].1 + x[i].2 + 1 ≤ j := fun j hj => ((hx.next i hi).ge hj).1
 have gy : ∀ j, inS (y.drop (k + 1)) j → y[k].1 + y[k].2 + 1 ≤ j := fun j hj => ((hy.next k hk).ge hj).1
 have hxm : ∀ j, x[i].1 ≤ j → j < x[i].1 + x[i].2 → inS x j := fun j p q => ⟨x[i], List.getElem_mem hi, p, q⟩
 have hym : ∀ j, y[k].1 ≤ j → j < y[k].1 + y[k].2 → inS y j := fun j p q => ⟨y[k], List.getElem_mem hk, p, q⟩
 have xi0 : x[i] ∈ x.drop i := by rw [List.drop_eq_getElem_cons hi]; exact List.mem_cons_self
 have yk0 : y[k] ∈ y.drop k := by rw [List.drop_eq_getElem_cons hk]; exact List.mem_cons_self
 have mx : ∀ q, q ∈ x.drop i' → q ∈ x.drop i := by
  rcases hik with ⟨_, rfl, _⟩ | ⟨_, rfl, _⟩
  ·exact fun q hq => mem_drop_le hq
  ·exact fun q hq => hq
 have my : ∀ q, q ∈ y.drop k' → q ∈ y.drop k := by
  rcases hik with ⟨_, _, rfl⟩ | ⟨_, _, rfl⟩
  ·exact fun q hq => hq
  ·exact fun q hq => mem_drop_le hq
 have ngap : (∀ q ∈ x.drop i', hi' + 1 ≤ q.1) ∨ (∀ q ∈ y.drop k', hi' + 1 ≤ q.1) := by
  rcases hik with ⟨e, rfl, _⟩ | ⟨e, _, rfl⟩
  ·exact Or.inl (fun q hq => by have := drop_ge hx hi hq; omega)
  ·exact Or.inr (fun q hq => by have := drop_ge hy hk hq; omega)
 have ex : ∀ j, max T hi' ≤ j → inS x j → inS (x.drop i') j := by
  intro j hj hin
  have hd := h2 j (by omega) hin
  rcases hik with ⟨e, rfl, _⟩ | ⟨e, rfl, _⟩
  ·rcases (dx j).1 hd with ⟨_, q⟩ | q
   ·omega
   ·exact q
  ·exact hd
 have ey : ∀ j, max T hi' ≤ j → inS y j → inS (y.drop k') j := by
  intro j hj hin
  have hd := h3 j (by omega) hin
  rcases hik with ⟨e, _, rfl⟩ | ⟨e, _, rfl⟩
  ·exact hd
  ·rcases (dy j).1 hd with ⟨_, q⟩ | q
   ·omega
   ·exact q
 have hii : i' ≤ x.length ∧ k' ≤ y.length := by rcases hik with ⟨_, rfl, rfl⟩ | ⟨_, rfl, rfl⟩ <;> omega
 have back : ∀ j, inS x j → inS y j → T ≤ j → j < hi' → lo ≤ j := by
  intro j p q r s
  have p2 := h2 j r p
  have q2 := h3 j r q
  have p3 : x[i].1 ≤ j := by
   rcases (dx j).1 p2 with ⟨p3, _⟩ | p3
   ·exact p3
   ·have := gx j p3; omega
  have q3 : y[k].1 ≤ j := by
   rcases (dy j).1 q2 with ⟨q3, _⟩ | q3
   ·exact q3
   ·have := gy j q3; omega
  omega
 by_cases hlt : lo < hi'
 ·rw [if_pos hlt]
  refine ⟨hii.1, hii.2, ?_, ⟨max T hi', fun j => ?_, ex, ey⟩, ?_⟩
  ·refine pl.snoc (by show (0 : Int) ≤ lo; omega) (by show 1 ≤ hi' - lo; omega) (by show lo + (hi' - lo) ≤ 8192; omega) (fun r hr => ?_)
   show r.1 + r.2 + 1 ≤ lo
   rcases gap r hr with g | g
   ·have := g _ xi0; omega
   ·have := g _ yk0; omega
  ·rw [inS_append, inS_one, h1 j]
   constructor
   ·rintro (⟨p, q, r⟩ | ⟨p, q⟩)
    ·exact ⟨p, q, by omega⟩
    ·have p : lo ≤ j := p
     have q : j < lo + (hi' - lo) := q
     exact ⟨hxm j (by omega) (by omega), hym j (by omega) (by omega), by omega⟩
   ·rintro ⟨p, q, r⟩
    by_cases hT : j < T
    ·exact Or.inl ⟨p, q, hT⟩
    ·refine Or.inr ⟨?_, ?_⟩
     ·show lo ≤ j; exact back j p q (by omega) (by omega)
     ·show j < lo + (hi' - lo); omega
  ·intro r hr
   rcases List.mem_append.1 hr with hr | hr
   ·rcases gap r hr with g | g
    ·exact Or.inl (fun q hq => g q (mx q hq))
    ·exact Or.inr (fun q hq => g q (my q hq))
   ·have hr : r = (lo, hi' - lo) := by simpa using hr
    subst hr
    rcases ngap with g | g
    ·exact Or.inl (fun q hq => by have := g q hq; show lo + (hi' - lo) + 1 ≤ q.1; omega)
    ·exact Or.inr (fun q hq => by have := g q hq; show lo + (hi' - lo) + 1 ≤ q.1; omega)
 ·rw [if_neg hlt]
  refine ⟨hii.1, hii.2, pl, ⟨max T hi', fun j => ?_, ex, ey⟩, ?_⟩
  ·rw [h1 j]
   constructor
   ·rintro ⟨p, q, r⟩; exact ⟨p, q, by omega⟩
   ·rintro ⟨p, q, r⟩
    by_cases hT : j < T
    ·exact ⟨p, q, hT⟩
    ·have := back j p q (by omega) (by omega); omega
  ·intro r hr
   rcases gap r hr with g | g
   ·exact Or.inl (fun q hq => g q (mx q hq))
   ·exact Or.inr (fun q hq => g q (my q hq))
theorem com_end {a b out : List (Int × Int)} {i k : Nat} (h : ComInv (plainL a) (plainL b) out i k) (he : i = (plainL a).length ∨ k = (plainL b).length) : out = commonL a b := by
 obtain ⟨_, _, pl, ⟨T, h1, h2, h3⟩, _⟩ := h
 refine canon_eq pl (fun m hm => ?_)
 rw [h1]
 have ea : inS (plainL a) m ↔ hasB a m = true := by rw [← hasB_iff]; unfold plainL; rw [canon_has _ m hm]
 have eb : inS (plainL b) m ↔ hasB b m = true := by rw [← hasB_iff]; unfold plainL; rw [canon_has _ m hm]
 rw [Bool.and_eq_true, ← ea, ← eb]
 constructor
 ·rintro ⟨p, q, _⟩; exact ⟨p, q⟩
 ·rintro ⟨p, q⟩
  refine ⟨p, q, ?_⟩
  by_cases hT : (m : Int) < T
  ·exact hT
  ·exfalso
   rcases he with he | he
   ·have := h2 m (by omega) p
    rw [he, List.drop_length] at this
    exact inS_nil _ this
   ·have := h3 m (by omega) q
    rw [he, List.drop_length] at this
    exact inS_nil _ this
end Go.Proofs.YtdkimcnlhmhpgaaGreat
