/- -/
import Derived.Test.YtdkimcnlhmhpgaaGreatG07
import Derived.Test.YtdkimcnlhmhpgaaGreatG10
import Derived.Test.YtdkimcnlhmhpgaaGreatG11
import Derived.Test.YtdkimcnlhmhpgaaGreatG16
import Derived.Test.YtdkimcnlhmhpgaaGreatG33
import Derived.Test.YtdkimcnlhmhpgaaGreatG36
import Derived.Deep.RegionHeld3
import Derived.WalkMore
import Derived.ScopeJumps
import Derived.Outline
import Derived.Deep.QuietTactic
import Derived.BigQuiet
import Derived.Deep.RegionWith
import Derived.BigRegion
set_option linter.unusedVariables false
set_option linter.unusedSimpArgs false
namespace Go.Proofs.YtdkimcnlhmhpgaaGreat
open Go.RowKit
theorem secs_hasB {l : List (Int × Int)} (h : ∀ a ∈ l, 0 ≤ a.1) {k : Nat} (hk : k ∈ secsL l) : hasB l k = true := by
  obtain ⟨r, hr, h1, h2⟩ := secsL_mem hk
  have := h r hr
  exact hasB_iff.2 ⟨r, hr, by omega, by omega⟩
theorem pl_low {l : List (Int × Int)} (h : Pl 0 l) : ∀ a ∈ l, 0 ≤ a.1 := fun a ha => (h.mem ha).1
theorem canon_lt {f : Nat → Bool} {k : Nat} (h : hasB (canon f) k = true) : k < 8192 ∧ f k = true := by
  obtain ⟨m, h1, h2, h3⟩ := (canon_is f k).1 (hasB_iff.1 h)
  have : m = k := by omega
  subst this
  exact ⟨h2, h3⟩
theorem minus_has {a b : List (Int × Int)} {k : Nat} (h : hasB (minusL a b) k = true) : hasB a k = true ∧ hasB b k = false ∧ k < 8192 := by
  obtain ⟨h1, h2⟩ := canon_lt h
  simp only [Bool.and_eq_true, Bool.not_eq_true'] at h2
  exact ⟨h2.1, h2.2, h1⟩
theorem low_has {l : List (Int × Int)} {n : Int} {k : Nat} (h : hasB (lowestL l n) k = true) : hasB l k = true := by
  obtain ⟨_, h2⟩ := canon_lt h
  unfold lowF at h2
  simp only [Bool.and_eq_true] at h2
  exact h2.1
theorem low_pl (l : List (Int × Int)) (n : Int) : Pl 0 (lowestL l n) := canon_pl _
theorem minus_pl (a b : List (Int × Int)) : Pl 0 (minusL a b) := canon_pl _
theorem room_has {v : VS} {k : Nat} (h : hasB (roomX v) k = true) : 2 + v.s.journal ≤ (k : Int) ∧ (k : Int) < v.s.sectors ∧ hasB (runsC v.c) k = false ∧ hasB v.s.runs k = false := by
  obtain ⟨h1, h2, h3⟩ := minus_has h
  rw [hasB_append, Bool.or_eq_false_iff] at h2
  obtain ⟨r, hr, h4, h5⟩ := hasB_iff.1 h1
  obtain rfl : r = (2 + v.s.journal, v.s.sectors - (2 + v.s.journal)) := by simpa using hr
  simp only at h4 h5
  exact ⟨by omega, by omega, h2.1, h2.2⟩
theorem plan_left (left : List (Int × Int)) (l : List VC) : ∀ j, j ≤ l.length → ∀ k, hasB (planAt left l j).2 k = true → hasB left k = true
  | 0, _, k, h => h
  | j + 1, hj, k, h => by
    rw [planAt_succ left l j (by omega)] at h
    unfold plan1 at h
    split at h
    · exact plan_left left l j (by omega) k (minus_has h).1
    · exact plan_left left l j (by omega) k h
theorem plan_runs (left : List (Int × Int)) (l : List VC) : ∀ j, j ≤ l.length → ∀ r ∈ (planAt left l j).1, Pl 0 r.runs ∧ ∀ k, hasB r.runs k = true → hasB left k = true
  | 0, _, r, hr => by simp [planAt] at hr
  | j + 1, hj, r, hr => by
    rw [planAt_succ left l j (by omega)] at hr
    unfold plan1 at hr
    split at hr
    · rcases List.mem_append.1 hr with hr | hr
      · exact plan_runs left l j (by omega) r hr
      · obtain rfl := List.mem_singleton.1 hr
        exact ⟨low_pl _ _, fun k hk => plan_left left l j (by omega) k (low_has hk)⟩
    · rcases List.mem_append.1 hr with hr | hr
      · exact plan_runs left l j (by omega) r hr
      · obtain rfl := List.mem_singleton.1 hr
        exact ⟨trivial, fun k hk => by simp [VC.told, hasB] at hk⟩
theorem wf_of_pl {l : List (Int × Int)} (h : Pl 0 l) : ∀ a ∈ l, WfRun a := fun a ha => by
  have := h.mem ha
  unfold WfRun
  omega
theorem planAt_take (left : List (Int × Int)) (l : List VC) (j k : Nat) (h : k ≤ j) (hj : j ≤ l.length) : (planAt left l j).1.take k = (planAt left l k).1 := by
  induction j with
  | zero => obtain rfl : k = 0 := by omega
            rfl
  | succ j ih =>
    by_cases e : k = j + 1
    · subst e
      rw [List.take_of_length_le (by rw [planAt_len left l _ hj]; omega)]
    · rw [planAt_succ left l j (by omega)]
      have h1 := ih (by omega) (by omega)
      have hl := planAt_len left l j (by omega)
      unfold plan1
      split
      · rw [List.take_append_of_le_length (by omega)]; exact h1
      · rw [List.take_append_of_le_length (by omega)]; exact h1
theorem planAt_at (left : List (Int × Int)) (l : List VC) (k : Nat) (h : k < l.length) (h' : k < (planAt left l l.length).1.length) : (planAt left l l.length).1[k] = if kBlob l[k].kind then ⟨l[k].kind, l[k].id, l[k].name, l[k].bytes.length, lowestL (planAt left l k).2 (need l[k].bytes.length)⟩ else l[k].told := by
  have h1 := planAt_take left l l.length (k + 1) (by omega) (Nat.le_refl _)
  have h2 := planAt_len left l k (by omega)
  rw [planAt_succ left l k h] at h1
  have h3 : ((planAt left l l.length).1.take (k + 1))[k]? = some (planAt left l l.length).1[k] := by
    rw [List.getElem?_take, if_pos (by omega), List.getElem?_eq_getElem h']
  rw [h1] at h3
  unfold plan1 at h3
  split at h3 <;> rename_i hb
  · rw [List.getElem?_append_right (by omega), h2, Nat.sub_self] at h3
    rw [if_pos hb]
    exact (Option.some.inj h3).symm
  · rw [List.getElem?_append_right (by omega), h2, Nat.sub_self] at h3
    rw [if_neg hb]
    exact (Option.some.inj h3).symm
def nameP (nm : List UInt8) : JItem → Bool := fun x => x.name == nm
theorem findX_iff {p : JItem → Bool} {l : List JItem} {x : JItem} : findX p l = (x, true) ↔ l.find? p = some x := by
  unfold findX
  cases l.find? p with
  | none => simp
  | some y => simp
structure Holds (nm data : List UInt8) (v : VS) : Prop where
  quiet : Quiet v.d
  dead : v.dead = false
  cat : mayC v.c
  item : ∃ x, v.c.names.find? (nameP nm) = some x ∧ getCode v.d x.runs x.size = 0 ∧ getX v.d x.runs x.size = data ∧ (∀ a ∈ x.runs, 0 ≤ a.1) ∧ ∀ k ∈ secsL x.runs, 2 ≤ k ∧ 2 + v.s.journal ≤ (k : Int)
theorem getCode_qs {P : Nat → Prop} {d d' : DK} (h : Quiet d) (k : QS P d d') (l : List (Int × Int)) (n : Int) (h0 : getCode d l n = 0) (hP : ∀ i ∈ secsL l, P i) : getCode d' l n = 0 ∧ getX d' l n = getX d l n := by
  have hx : FitX l d.stand.length n := by
    apply Classical.byContradiction
    intro hh
    unfold getCode at h0
    rw [if_neg hh] at h0
    cases h0
  have h1 : getCode d' l n = 0 := by
    unfold getCode
    rw [k.len, if_pos hx, if_neg (by rw [k.quiet.down]; simp)]
  refine ⟨h1, ?_⟩
  unfold getX
  rw [if_pos h1, if_pos h0, getL_same (d := d) (d' := d') (secsL l) (fun a ha => k.seen a (by have := (hx.lt ha).1; omega) (hP a ha))]
theorem holds_read {nm data : List UInt8} {v : VS} (h : Holds nm data v) (id : Int) : readX v 3 id nm = (data, 0, v) := by
  obtain ⟨x, h1, h2, h3, _⟩ := h.item
  have e : askX v.c 3 id nm = (x, true) := by
    unfold askX
    rw [if_neg (by decide), if_neg (by decide)]
    exact findX_iff.2 h1
  unfold readX
  rw [if_neg (by rw [h.dead]; simp), if_neg (by simp), e, if_neg (by simp)]
  simp only [h2, h3]
  obtain ⟨d, s, c, dead⟩ := v
  have hd : dead = false := h.dead
  rw [hd]
  rfl
theorem tell_qv {P : Nat → Prop} {v : VS} {r : VS × Int} (h : QV P v r) (hd : v.dead = false) : (tellX r).1.dead = false ∧ QS P v.d (tellX r).1.d ∧ (tellX r).1.c = r.1.c ∧ (tellX r).1.s = r.1.s ∧ (tellX r).2 = r.2 := by
  obtain ⟨a, b, c, _⟩ := h
  refine ⟨?_, a, rfl, rfl, rfl⟩
  show (r.1.dead || r.2 == 90) = false
  rw [c, hd]
  simpa using b
theorem appendX_ok {c : JCat} {tx : List UInt8} {v : VS} (h : (appendX c tx v).2 = 0) : (appendX c tx v).1.c = c ∧ (appendX c tx v).1.s.journal = v.s.journal := by
  unfold appendX at h ⊢
  split
  · rename_i h1
    rw [if_pos h1] at h
    split
    · exact ⟨rfl, rfl⟩
    · rename_i h2
      rw [if_neg h2] at h
      exact absurd h h2
  · rename_i h1
    rw [if_neg h1] at h
    exact absurd h h1
theorem settleX_ok {c : JCat} {t : List UInt8} {runs : List (Int × Int)} {v : VS} (h : (settleX c t runs v).2 = 0) : (settleX c t runs v).1.c = c ∧ (settleX c t runs v).1.s.journal = v.s.journal := by
  unfold settleX at h ⊢
  split
  · exact ⟨rfl, rfl⟩
  · rename_i h2
    rw [if_neg h2] at h
    exact absurd h h2
theorem all_ok {fs : List (DK → DK × Int)} {g : VS → VS × Int} {v : VS} {c : JCat} (hg : ∀ u : VS, u.s = v.s → (g u).2 = 0 → (g u).1.c = c ∧ (g u).1.s.journal = u.s.journal) (h : (chainV (fs.map onD ++ [g]) v).2 = 0) : (chainV (fs.map onD ++ [g]) v).1.c = c ∧ (chainV (fs.map onD ++ [g]) v).1.s.journal = v.s.journal := by
  rw [chainV_append] at h ⊢
  by_cases h0 : (chainV (fs.map onD) v).2 = 0
  · rw [if_pos h0] at h ⊢
    rw [chainV_onD] at h h0 ⊢
    have e : chainV [g] (onD (chainD fs) v).1 = if (g (onD (chainD fs) v).1).2 = 0 then ((g (onD (chainD fs) v).1).1, 0) else g (onD (chainD fs) v).1 := rfl
    rw [e] at h ⊢
    by_cases h1 : (g (onD (chainD fs) v).1).2 = 0
    · rw [if_pos h1]
      exact hg (onD (chainD fs) v).1 rfl h1
    · rw [if_neg h1] at h
      exact absurd h h1
  · rw [if_neg h0] at h
    exact absurd h h0
theorem plan_ids (left : List (Int × Int)) (l : List VC) (hn : ∀ x ∈ l, 0 ≤ x.id) : ∀ r ∈ (planAt left l l.length).1, 0 ≤ r.id := by
  intro r hr
  obtain ⟨k, hk, rfl⟩ := List.mem_iff_getElem.1 hr
  have hk' : k < l.length := by rw [planAt_len left l _ (Nat.le_refl _)] at hk; exact hk
  rw [planAt_at left l k hk' hk]
  have := hn l[k] (List.getElem_mem hk')
  split <;> exact this
theorem put_get {d : DK} (h : Quiet d) (l : List (Int × Int)) (s : List UInt8) (h0 : (putX d l s).2 = 0) : getCode (putX d l s).1 l s.length = 0 ∧ getX (putX d l s).1 l s.length = s ∧ QS (fun k => k ∉ secsL l) d (putX d l s).1 := by
  have hq := (quiet_putX (P := fun k => k ∉ secsL l) h l s (fun k hk => hk)).1
  have hX : FitX l d.stand.length s.length := by
    apply Classical.byContradiction
    intro hh
    unfold putX at h0
    rw [if_neg hh] at h0
    cases h0
  have hlt : ∀ a ∈ secsL l, a < d.stand.length := fun a ha => by have := (hX.lt ha).1; omega
  obtain ⟨d', e1, e2, e3, e4, e5, eo, ew, e6, e7⟩ := put_ok (secsL l) d s h.fit h.down h.fuse hlt (secsL_nodup hX.2.2.1)
  have hput : putX d l s = (d', 0) := by
    unfold putX
    rw [if_pos hX, if_neg (by rw [h.down]; simp), e1]
  rw [hput] at hq ⊢
  have hgc : getCode d' l s.length = 0 := by
    unfold getCode
    rw [e2, if_pos hX, if_neg (by rw [e3]; simp)]
  refine ⟨hgc, ?_, hq⟩
  unfold getX
  rw [if_pos hgc, Int.toNat_natCast, getL_chunks (secsL l) d' s (fun i h => e7 i h)]
  refine chunksL_take _ _ ?_
  have : ((secsL l).length : Int) = need (s.length : Int) := hX.secs
  unfold need at this
  split at this <;> omega
theorem holds_put {nm data : List UInt8} {v : VS} {R : List (Int × Int)} (hq : Quiet v.d) (hd : v.dead = false) (hR : Pl 0 R) (hRm : ∀ k, hasB R k = true → hasB (roomX v) k = true) (hj : 1 ≤ v.s.journal) {c : JCat} (hcm : mayC c) {x : JItem} (hx : c.names.find? (nameP nm) = some x) (hxr : x.runs = R) (hxs : x.size = data.length)
    (fs : List (DK → DK × Int)) (g : VS → VS × Int)
    (hf : (∀ f ∈ fs, ∀ d, Quiet d → QR (fun k => k ∈ secsL R) d (f d)) ∧ (∀ u : VS, u.s = v.s → Quiet u.d → QV (fun k => k ∈ secsL R) u (g u)))
    (hg : ∀ u : VS, u.s = v.s → (g u).2 = 0 → (g u).1.c = c ∧ (g u).1.s.journal = u.s.journal)
    (h0 : (tellX (chainV (onD (fun d => putX d R data) :: (fs.map onD ++ [g])) v)).2 = 0) :
    Holds nm data (tellX (chainV (onD (fun d => putX d R data) :: (fs.map onD ++ [g])) v)).1 := by
  have e : chainV (onD (fun d => putX d R data) :: (fs.map onD ++ [g])) v = if (onD (fun d => putX d R data) v).2 = 0 then chainV (fs.map onD ++ [g]) (onD (fun d => putX d R data) v).1 else onD (fun d => putX d R data) v := rfl
  rw [e] at h0 ⊢
  by_cases h1 : (onD (fun d => putX d R data) v).2 = 0
  · rw [if_pos h1] at h0 ⊢
    obtain ⟨p1, p2, p3⟩ := put_get hq R data h1
    have hu : Quiet (onD (fun d => putX d R data) v).1.d := p3.quiet
    have hqa := quiet_all fs g (onD (fun d => putX d R data) v).1 hf.1 (fun u u1 u2 u3 u4 => hf.2 u u1 u4) hu
    obtain ⟨t1, t2, t3, t4, t5⟩ := tell_qv hqa (by exact hd)
    obtain ⟨e1, e2⟩ := all_ok (v := (onD (fun d => putX d R data) v).1) hg (by rw [← t5]; exact h0)
    obtain ⟨g1, g2⟩ := getCode_qs hu t2 R data.length p1 (fun i hi => hi)
    refine ⟨t2.quiet, t1, by rw [t3, e1]; exact hcm, x, by rw [t3, e1]; exact hx, by rw [hxr, hxs]; exact g1, by rw [hxr, hxs]; exact g2.trans p2, by rw [hxr]; exact pl_low hR, fun k hk => ?_⟩
    rw [hxr] at hk
    have h2 := (room_has (hRm k (secs_hasB (pl_low hR) hk))).1
    rw [t4, e2]
    show 2 ≤ k ∧ 2 + v.s.journal ≤ (k : Int)
    omega
  · rw [if_neg h1] at h0
    exact absurd h0 h1
open Classical in
theorem holds_first {nm data : List UInt8} {v : VS} (hq : Quiet v.d) (hd : v.dead = false) (hc : v.c = catE) (hj : 1 ≤ v.s.journal) (h0 : (changeX v [⟨3, 0, nm, data⟩]).2 = 0) : Holds nm data (changeX v [⟨3, 0, nm, data⟩]).1 := by
  have hp : planAt (roomX v) [⟨3, 0, nm, data⟩] 1 = ([⟨3, 0, nm, data.length, lowestL (roomX v) (need data.length)⟩], minusL (roomX v) (lowestL (roomX v) (need data.length))) := rfl
  unfold changeX at h0 ⊢
  rw [show ([⟨3, 0, nm, data⟩] : List VC).length = 1 from rfl, hp] at h0 ⊢
  simp only at h0 ⊢
  generalize hR : lowestL (roomX v) (need data.length) = R at *
  have hRp : Pl 0 R := by rw [← hR]; exact low_pl _ _
  have hRm : ∀ k, hasB R k = true → hasB (roomX v) k = true := fun k hk => by rw [← hR] at hk; exact low_has hk
  rw [if_neg (by rw [hd]; simp)] at h0 ⊢
  by_cases c1 : wrongX v.c [⟨3, 0, nm, data⟩] ≠ 0
  · rw [if_pos c1] at h0
    exact absurd h0 c1
  · rw [if_neg c1] at h0 ⊢
    by_cases c2 : ¬ planOk (roomX v) [⟨3, 0, nm, data⟩]
    · rw [if_pos c2] at h0; cases h0
    · rw [if_neg c2] at h0 ⊢
      by_cases c3 : (applyX v.c [⟨3, 0, nm, data.length, R⟩]).2 ≠ 0
      · rw [if_pos c3] at h0
        exact absurd h0 c3
      · rw [if_neg c3] at h0 ⊢
        have c3 : (applyX v.c [⟨3, 0, nm, data.length, R⟩]).2 = 0 := by simpa using c3
        by_cases c4 : txCode [⟨3, 0, nm, data.length, R⟩] ≠ 0
        · rw [if_pos c4] at h0
          exact absurd h0 c4
        · rw [if_neg c4] at h0 ⊢
          have hmc : mayC v.c := by
            apply Classical.byContradiction
            intro hh
            unfold applyX at c3
            rw [if_neg hh] at c3
            cases c3
          have hap : applyX v.c [⟨3, 0, nm, data.length, R⟩] = recsX v.c [⟨3, 0, nm, data.length, R⟩] := by unfold applyX; rw [if_pos hmc]
          have hcm : mayC (applyX v.c [⟨3, 0, nm, data.length, R⟩]).1 := by
            rw [hap] at c3 ⊢
            exact recs_may hmc (fun r hr => by obtain rfl := List.mem_singleton.1 hr; exact Int.le_refl _) c3
          have hfind : (applyX v.c [⟨3, 0, nm, data.length, R⟩]).1.names.find? (nameP nm) = some ⟨0, nm, data.length, R⟩ := by
            rw [hap, hc] at c3 ⊢
            unfold recsX at c3 ⊢
            by_cases m1 : mayR ⟨3, 0, nm, data.length, R⟩ = true
            · rw [if_pos m1] at c3 ⊢
              by_cases m2 : (oneX catE ⟨3, 0, nm, data.length, R⟩).2 = 0
              · rw [if_pos m2]
                show (comesX [] (JRec.item ⟨3, 0, nm, data.length, R⟩) 0 256 false).1.find? _ = _
                unfold comesX
                rw [if_neg (by simp), if_neg (by
                  rintro (hh | hh)
                  · obtain ⟨y, hy, _⟩ := hasK_iff.1 hh
                    cases hy
                  · exact absurd hh (by show ¬ (0 : Int) < 0; decide)), if_neg (by simp)]
                unfold insI
                simp [nameP, JRec.item]
              · rw [if_neg m2] at c3; exact absurd c3 m2
            · rw [if_neg m1] at c3; cases c3
          generalize applyX v.c [⟨3, 0, nm, data.length, R⟩] = AP at *
          generalize txOut [⟨3, 0, nm, data.length, R⟩] = TX at *
          have hpx : putsX [⟨3, 0, nm, data⟩] [⟨3, 0, nm, data.length, R⟩] = [onD (fun d => putX d R data)] := rfl
          rw [hpx] at h0 ⊢
          by_cases c5 : (TX.length : Int) ≤ v.s.journal * 128 - v.s.used
          · rw [if_pos c5] at h0 ⊢
            have e : [onD (fun d => putX d R data)] ++ [onD stepF, appendX AP.1 TX] = onD (fun d => putX d R data) :: ([stepF].map onD ++ [appendX AP.1 TX]) := rfl
            rw [e] at h0 ⊢
            refine holds_put hq hd hRp hRm hj hcm hfind rfl rfl [stepF] _ ⟨fun f hf d hd => ?_, fun u u1 hu => ?_⟩ (fun u u1 h0 => appendX_ok h0) h0
            · obtain rfl := List.mem_singleton.1 hf
              exact quiet_stepF hd
            · refine quiet_appendX _ _ u (fun k hk => ?_) hu
              have h2 := (room_has (hRm k (secs_hasB (pl_low hRp) hk))).1
              rw [u1]
              omega
          · rw [if_neg c5] at h0 ⊢
            by_cases c6 : (putOut AP.1).2 ≠ 0
            · rw [if_pos c6] at h0
              exact absurd h0 c6
            · rw [if_neg c6] at h0 ⊢
              by_cases c7 : lowCode (minusL (roomX v) R) (need (putOut AP.1).1.length) ≠ 0
              · rw [if_pos c7] at h0; cases h0
              · rw [if_neg c7] at h0 ⊢
                have e : [onD (fun d => putX d R data)] ++ [settleX AP.1 (putOut AP.1).1 (lowestL (minusL (roomX v) R) (need (putOut AP.1).1.length))] = onD (fun d => putX d R data) :: (([] : List (DK → DK × Int)).map onD ++ [settleX AP.1 (putOut AP.1).1 (lowestL (minusL (roomX v) R) (need (putOut AP.1).1.length))]) := rfl
                rw [e] at h0 ⊢
                refine holds_put hq hd hRp hRm hj hcm hfind rfl rfl [] _ ⟨fun f hf => by simp at hf, fun u u1 hu => ?_⟩ (fun u u1 h0 => settleX_ok h0) h0
                refine quiet_settleX _ _ _ u (fun k hk => ?_) hu
                have h2 := (room_has (hRm k (secs_hasB (pl_low hRp) hk))).1
                refine ⟨by omega, fun hm => ?_⟩
                have h3 := (minus_has (low_has (secs_hasB (pl_low (low_pl _ _)) hm))).2.1
                rw [secs_hasB (pl_low hRp) hk] at h3
                cases h3
theorem RrAt.reader {w : World} {b : Nat} {l : List UInt8} {x : Int} (h : RrAt w b l x) : ∃ cs, Own w b cs 263 := by
  obtain ⟨S, a, h1, _⟩ := h; exact ⟨_, h1⟩
theorem RrAt.small {w : World} {b : Nat} {l : List UInt8} {x : Int} (h : RrAt w b l x) : l.length ≤ 1000000 := by
  obtain ⟨S, a, _, _, h2, rfl, _⟩ := h
  rw [List.length_drop]; omega
theorem RrAt.off {w0 w : World} {b : Nat} {l : List UInt8} {x : Int} (h : RrAt w b l x) : OffRecs w0 w [b] := by
  obtain ⟨cs, o⟩ := h.reader
  exact OffRecs.one o (by decide) (by decide)
theorem RrAt.grown {w w5 : World} {b base size n : Nat} {e : TypeId} {v10 : Value} {xs : List Value} {l : List UInt8} {x : Int} (h : RrAt w b l x) (hr : w.ownsRow base e size v10 n xs) (hg : w.grownBy w5 v10.ownBlock) (h1 : e ≠ 263) : RrAt w5 b l x := by
  obtain ⟨S, a, o, h2⟩ := h
  exact ⟨S, a, own_grown hr hg o h1, h2⟩
theorem RunsNew.grown {w0 w w5 : World} {base size n : Nat} {e : TypeId} {u v10 : Value} {xs : List Value} {rs : List (Int × Int)} (h : RunsNew w0 w u rs) (hr : w.ownsRow base e size v10 n xs) (hg : w.grownBy w5 v10.ownBlock) (h1 : e ≠ 128) : RunsNew w0 w5 u rs :=
  ownsRow_same h (fun g cs hb hc => hg.block g (lt_of_block hc) (fun e' => own_row_ne hr (show Own w g cs 128 from hc) h1 e'.symm))
structure RrSt (w wx : World) (b ob xb : Nat) (k : Int) (i : Nat) (t : List UInt8) (z : Nat) (v : Value) (rs : List (Int × Int)) (l : List UInt8) (x : Int) : Prop where
  rd : RrAt wx b l x
  out : Own wx ob #[.int .i64 0, .int .u32 0, .string { data := #[] }, .int .i64 0, .slice none 0 0] 102
  rcd : Own wx xb #[.int .i64 k, .int .u32 i, .string (bs t), .int .i64 z, v] 102
  row : RunsNew w wx v rs
  kept : Kept [b] w wx
  hb : b < w.heap.size
  hob : w.heap.size ≤ ob
  hxb : w.heap.size ≤ xb
  n3 : ob ≠ xb
section
variable {w wx wy : World} {b ob xb : Nat} {k : Int} {i : Nat} {t : List UInt8} {z : Nat} {v : Value} {rs : List (Int × Int)} {l l' : List UInt8} {x x' : Int}
theorem RrSt.read (h : RrSt w wx b ob xb k i t z v rs l x) (hR : RrAt wy b l' x') (kk : Kept [b] wx wy) : RrSt w wy b ob xb k i t z v rs l' x' where
  rd := hR
  out := kk.own h.out (by have := h.hb; have := h.hob; simp; omega)
  rcd := kk.own h.rcd (by have := h.hb; have := h.hxb; simp; omega)
  row := ownsRow_kept h.row kk (by have := h.hb; simp; omega)
  kept := h.kept.call kk (by simp)
  hb := h.hb
  hob := h.hob
  hxb := h.hxb
  n3 := h.n3
theorem RrSt.set (h : RrSt w wx b ob xb k i t z v rs l x) (j : Nat) (u : Value) (k' : Int) (i' : Nat) (t' : List UInt8) (z' : Nat)
    (e : (#[.int .i64 k, .int .u32 i, .string (bs t), .int .i64 z, v] : Array Value).setIfInBounds j u = #[.int .i64 k', .int .u32 i', .string (bs t'), .int .i64 z', v]) :
    RrSt w (wx.setCell ⟨xb, j, none⟩ u) b ob xb k' i' t' z' v rs l x where
  rd := h.rd.other (p := ⟨xb, j, none⟩) (by have := h.hb; have := h.hxb; show b ≠ xb; omega) u
  out := h.out.other (p := ⟨xb, j, none⟩) h.n3 u
  rcd := by rw [← e]; exact h.rcd.set j u
  row := ownsRow_other h.row (p := ⟨xb, j, none⟩) (own_row_ne h.row h.rcd (by decide)) u
  kept := h.kept.setCell (p := ⟨xb, j, none⟩) (Or.inr h.hxb) u
  hb := h.hb
  hob := h.hob
  hxb := h.hxb
  n3 := h.n3
theorem RrSt.set4 (h : RrSt w wx b ob xb k i t z v rs l x) {v' : Value} {rs' : List (Int × Int)} (hr : RunsNew w wx v' rs') :
    RrSt w (wx.setCell ⟨xb, 4, none⟩ v') b ob xb k i t z v' rs' l x where
  rd := h.rd.other (p := ⟨xb, 4, none⟩) (by have := h.hb; have := h.hxb; show b ≠ xb; omega) v'
  out := h.out.other (p := ⟨xb, 4, none⟩) h.n3 v'
  rcd := h.rcd.set 4 v'
  row := ownsRow_other hr (p := ⟨xb, 4, none⟩) (own_row_ne hr h.rcd (by decide)) v'
  kept := h.kept.setCell (p := ⟨xb, 4, none⟩) (Or.inr h.hxb) v'
  hb := h.hb
  hob := h.hob
  hxb := h.hxb
  n3 := h.n3
end
structure QrecsSt (w wr : World) (b : Nat) (s s1 : List UInt8) (j : Nat) (v6 : Value) (vs : List (JRec × Value)) (rest : List UInt8) (x : Int) : Prop where
  so : (x = 0 ∧ recsO j s1 = some (vs.map (·.1), rest)) ∨ (x ≠ 0 ∧ bodyO s = none)
  rd : RrAt wr b rest x
  row : wr.ownsRow w.heap.size 102 5 v6 j (reccells vs)
  each : ∀ y ∈ vs, RunsNew w wr y.2 y.1.runs ∧ y.1.fits
  len : vs.length = j
  kept : Kept [] w wr
  hb : b = w.heap.size
section
variable {w wr w3 w5 : World} {b : Nat} {s s1 : List UInt8} {j : Nat} {v6 v' kv : Value} {vs : List (JRec × Value)} {rest rest' : List UInt8} {x x' : Int} {r : JRec} {o1 : Obj}
theorem QrecsSt.new (h : QrecsSt w wr b s s1 j v6 vs rest x) : RecsNew w wr v6 (vs.map (·.1)) :=
  ⟨vs, rfl, by rw [List.length_map, h.len]; exact h.row, h.each⟩
theorem QrecsSt.row3 (h : QrecsSt w wr b s s1 j v6 vs rest x) {S : List Nat} (kk : Kept S wr w3) (hS : ∀ y ∈ S, y = b) : w3.ownsRow w.heap.size 102 5 v6 j (reccells vs) :=
  ownsRow_keptT h.row kk (fun y hy _ cs hc => by
    obtain ⟨cs', o⟩ := h.rd.reader
    rw [hS y hy] at hc
    exact absurd (own_ty o hc) (by decide))
theorem QrecsSt.kept3 (h : QrecsSt w wr b s s1 j v6 vs rest x) {S : List Nat} (kk : Kept S wr w3) (hS : ∀ y ∈ S, y = b) : Kept [] w w3 :=
  h.kept.call kk (fun y hy => Or.inr (by have := hS y hy; have := h.hb; omega))
theorem QrecsSt.next (h : QrecsSt w wr b s s1 j v6 vs rest x) (ho : (x' = 0 ∧ recsO (j + 1) s1 = some (vs.map (·.1) ++ [r], rest')) ∨ (x' ≠ 0 ∧ bodyO s = none))
    {S : List Nat} (kk : Kept S wr w3) (hS : ∀ y ∈ S, y = b) (hR : RrAt w3 b rest' x') (hr : RunsNew wr w3 kv r.runs) (hf : r.fits)
    (hg : (w3.alloc o1).grownBy w5 v6.ownBlock) (hn : w5.ownsRow w.heap.size 102 5 v' (j + 1) (reccells vs ++ [Value.int .i64 r.kind, Value.int .u32 r.id, Value.string (bs r.name), Value.int .i64 r.size, kv])) :
    QrecsSt w w5 b s s1 (j + 1) v' (vs ++ [(r, kv)]) rest' x' := by
  have hrow3 := h.row3 kk hS
  have hk3 := h.kept3 kk hS
  have hsz := h.kept.size
  have heach3 : ∀ y ∈ vs, RunsNew w w3 y.2 y.1.runs ∧ y.1.fits := fun y hy => ⟨(h.each y hy).1.keptT kk (fun z hz => by
    obtain ⟨cs', o⟩ := h.rd.reader
    rw [hS z hz]
    exact Or.inr ⟨_, _, o, by decide⟩), (h.each y hy).2⟩
  have hra := World.ownsRow.alloc hrow3 o1
  have hk : ∀ (u : Value) (rs : List (Int × Int)), RunsNew w w3 u rs → RunsNew w w5 u rs := fun u rs hu => by
    have hu' : RunsNew w (w3.alloc o1) u rs := World.ownsRow.alloc hu o1
    exact hu'.grown hra hg (by decide)
  refine ⟨?_, (hR.kept ((Kept.refl [] w3).alloc o1) (by simp)).grown hra hg (by decide), by rw [reccells_snoc]; exact hn, fun y hy => ?_, by rw [List.length_append, h.len]; rfl, (hk3.alloc o1).grown hg (fun i hi => Or.inr (World.ownsRow.lt hra i hi).1), h.hb⟩
  · simpa using ho
  · rcases List.mem_append.1 hy with hy | hy
    · exact ⟨hk _ _ (heach3 y hy).1, (heach3 y hy).2⟩
    · have hy : y = (r, kv) := by simpa using hy
      subst hy
      exact ⟨hk _ _ (hr.base hsz), hf⟩
end
def TxsNew (w0 w : World) (v : Value) (l : List (List JRec)) : Prop :=
  ∃ vs : List (List JRec × Value), vs.map (·.1) = l ∧ w.ownsRow w0.heap.size 92 1 v l.length (vs.map (·.2)) ∧ ∀ x ∈ vs, RecsNew w0 w x.2 x.1
def OffTxs (w0 w : World) (S : List Nat) : Prop := ∀ x ∈ S, x < w0.heap.size ∨ ∃ cs t, Own w x cs t ∧ t ≠ 128 ∧ t ≠ 102 ∧ t ≠ 92
theorem OffTxs.nil (w0 w : World) : OffTxs w0 w [] := fun x hx => by cases hx
theorem OffTxs.one {w0 w : World} {b : Nat} {cs : Array Value} {t : TypeId} (h : Own w b cs t) (h1 : t ≠ 128) (h2 : t ≠ 102) (h3 : t ≠ 92) : OffTxs w0 w [b] := fun x hx => by
  have hx : x = b := by simpa using hx
  subst hx; exact Or.inr ⟨_, _, h, h1, h2, h3⟩
theorem OffTxs.recs {w0 w : World} {S : List Nat} (h : OffTxs w0 w S) : OffRecs w0 w S := fun x hx => (h x hx).imp id (fun ⟨cs, t, o, h1, h2, _⟩ => ⟨cs, t, o, h1, h2⟩)
section
variable {S : List Nat} {w0 w w' : World} {v : Value} {l : List (List JRec)}
theorem TxsNew.kept (h : TxsNew w0 w v l) (k : Kept S w w') (hS : OffTxs w0 w S) : TxsNew w0 w' v l := by
  obtain ⟨vs, h1, h2, h3⟩ := h
  refine ⟨vs, h1, ownsRow_keptT h2 k (fun x hx hb cs hc => ?_), fun x hx => (h3 x hx).kept k hS.recs⟩
  rcases hS x hx with h1 | ⟨cs', t, o, _, _, ht⟩
  · omega
  · exact ht (own_ty o hc)
theorem TxsNew.kept0 (h : TxsNew w0 w v l) (k : Kept [] w w') : TxsNew w0 w' v l := h.kept k (OffTxs.nil _ _)
theorem TxsNew.base {w1 : World} (h : TxsNew w1 w v l) (hb : w0.heap.size ≤ w1.heap.size) : TxsNew w0 w v l := by
  obtain ⟨vs, h1, h2, h3⟩ := h
  exact ⟨vs, h1, ownsRow_base h2 hb, fun x hx => (h3 x hx).base hb⟩
theorem TxsNew.nil (w0 w : World) : TxsNew w0 w (.slice none 0 0) [] := ⟨[], rfl, World.ownsRow_nil _ _ _ _, fun x hx => by cases hx⟩
theorem TxsNew.shape (h : TxsNew w0 w v l) : ∃ p c, v = .slice p l.length c := by
  obtain ⟨vs, h1, h2, h3⟩ := h; exact own_shape h2
theorem RecsNew.grown {w5 : World} {base size n : Nat} {e : TypeId} {u v10 : Value} {xs : List Value} {rs : List JRec} (h : RecsNew w0 w u rs) (hr : w.ownsRow base e size v10 n xs) (hg : w.grownBy w5 v10.ownBlock) (h1 : e ≠ 128) (h2 : e ≠ 102) : RecsNew w0 w5 u rs := by
  obtain ⟨vs, e1, e2, e3⟩ := h
  exact ⟨vs, e1, ownsRow_same e2 (fun g cs hb hc => hg.block g (lt_of_block hc) (fun e' => own_row_ne hr (show Own w g cs 102 from hc) h2 e'.symm)), fun x hx => ⟨ownsRow_same (e3 x hx).1 (fun g cs hb hc => hg.block g (lt_of_block hc) (fun e' => own_row_ne hr (show Own w g cs 128 from hc) h1 e'.symm)), (e3 x hx).2⟩⟩
theorem TxsNew.more {v' kv : Value} {o : List JRec} {w5 : World} {vs : List (List JRec × Value)} (h1 : vs.map (·.1) = l) (h3 : ∀ x ∈ vs, RecsNew w0 w x.2 x.1) (h2 : w.ownsRow w0.heap.size 92 1 v l.length (vs.map (·.2)))
    (hr : RecsNew w0 w kv o) {ob : Obj} (hg : (w.alloc ob).grownBy w5 v.ownBlock) (hn : w5.ownsRow w0.heap.size 92 1 v' (l.length + 1) (vs.map (·.2) ++ [kv])) : TxsNew w0 w5 v' (l ++ [o]) := by
  have hrow := World.ownsRow.alloc h2 ob
  have hk : ∀ (u : Value) (rs : List JRec), RecsNew w0 w u rs → RecsNew w0 w5 u rs := fun u rs hu =>
    (hu.kept0 ((Kept.refl [] w).alloc ob)).grown hrow hg (by decide) (by decide)
  refine ⟨vs ++ [(o, kv)], by simp [h1], by rw [List.map_append, List.length_append, List.length_singleton]; exact hn, fun x hx => ?_⟩
  rcases List.mem_append.1 hx with hx | hx
  · exact hk _ _ (h3 x hx)
  · have hx : x = (o, kv) := by simpa using hx
    subst hx
    exact hk _ _ hr
end
section
variable {w wr wx : World} {rb : Nat} {s0 : List UInt8} {v4 : Value} {out : List (List JRec)} {s s' : List UInt8} {x : Int}
end
theorem RecsIn.shape {w : World} {v : Value} {l : List JRec} {lo hi : Nat} (h : RecsIn w v l lo hi) : ∃ p c, v = .slice p l.length c := RowsOf.shape h
def TxsIn (w : World) (v : Value) (ll : List (List JRec)) (lo hi : Nat) : Prop := RowsOf 1 (fun w cs l => ∃ kv lo' hi', cs = [kv] ∧ RecsIn w kv l lo' hi') w v ll lo hi
theorem TxsIn.kept0 {w w' : World} {v : Value} {ll : List (List JRec)} {lo hi : Nat} (h : TxsIn w v ll lo hi) (k : Kept [] w w') : TxsIn w' v ll lo hi :=
  RowsOf.kept h k (fun x hx => by cases hx) (fun cs a ⟨kv, lo', hi', e1, e2⟩ => ⟨kv, lo', hi', e1, e2.kept0 k⟩)
theorem TxsIn.at_ {w : World} {p : Option Addr} {n c : Nat} {ll : List (List JRec)} {lo hi : Nat} (h : TxsIn w (.slice p n c) ll lo hi) (i : Nat) (hi' : i < ll.length) :
    ∃ b off kv lo' hi'', p = some ⟨b, off, none⟩ ∧ w.cell? ⟨b, off + i, none⟩ = some kv ∧ RecsIn w kv ll[i] lo' hi'' ∧ lo ≤ b ∧ b < hi ∧ hi ≤ w.heap.size := by
  obtain ⟨b, off, cs, e1, e2, ⟨kv, lo', hi2, rfl, e4⟩, e6, e7⟩ := RowsOf.at_ h i hi'
  refine ⟨b, off, kv, lo', hi2, e1, ?_, e4, e7⟩
  have := e6 0 _ rfl
  simpa using this
theorem TxsNew.in_ {w0 w : World} {v : Value} {ll : List (List JRec)} (h : TxsNew w0 w v ll) : TxsIn w v ll w0.heap.size w.heap.size := by
  obtain ⟨vs, rfl, h2, h3⟩ := h
  by_cases h0 : vs = []
  · subst h0
    obtain ⟨p, c, rfl⟩ := own_shape h2
    exact Or.inl ⟨rfl, p, c, rfl⟩
  · have hp : 0 < vs.length := List.length_pos_iff.2 h0
    obtain ⟨g, c, rfl, g1, g2, g3, g4, g5⟩ := ownsRow_at h2 (by simpa using hp)
    refine Or.inr ⟨g, 0, c, rfl, fun i hi => ?_, g1, g2, Nat.le_refl _, fun e => h0 (List.map_eq_nil_iff.1 e), g3, g4⟩
    have hi' : i < vs.length := by simpa using hi
    refine ⟨[vs[i].2], rfl, ⟨vs[i].2, _, _, rfl, by rw [List.getElem_map]; exact (h3 _ (List.getElem_mem hi')).in_⟩, fun j u hj => ?_⟩
    have hj0 : j = 0 := by
      have := (List.getElem?_eq_some_iff.1 hj).1
      simpa using this
    subst hj0
    rw [Nat.zero_add, Nat.mul_one]
    refine g5 _ _ ?_
    have hu : u = vs[i].2 := by simpa using hj.symm
    rw [hu]
    simp [hi']
theorem app_ok (n : Nat) : ∀ (d : DK) (a : Nat) (s : List UInt8), s.length ≤ n → Fit d → d.down = false → d.fuse < 0 → a + (s.length + 127) / 128 ≤ d.stand.length →
    ∃ d', appAll d a s = (d', 0) ∧ d'.stand = d.stand ∧ d'.down = false ∧ d'.fuse = d.fuse ∧ Fit d' ∧ (∀ i, i < a → seen d' i = seen d i) ∧ ∀ i, 128 * i < s.length → seen d' (a + i) = chunk (s.drop (128 * i)) := by
  induction n with
  | zero =>
    intro d a s hs hf hd hfu ha
    have : s = [] := List.eq_nil_of_length_eq_zero (by omega)
    subst this
    exact ⟨d, rfl, rfl, hd, rfl, hf, fun _ _ => rfl, fun i hi => by simp at hi⟩
  | succ n ih =>
    intro d a s hs hf hd hfu ha
    by_cases h0 : s = []
    · subst h0
      exact ⟨d, rfl, rfl, hd, rfl, hf, fun _ _ => rfl, fun i hi => by simp at hi⟩
    · have hl : 0 < s.length := List.length_pos_iff.2 h0
      obtain ⟨hc, hn⟩ := write_ok (s := s) hd hfu (by omega : a < d.stand.length)
      have hdn : (writeD d a (chunk s)).down = false := by
        show (if d.fuse = 0 then true else d.down) = false
        rw [if_neg (by omega), hd]
      have hfn : (writeD d a (chunk s)).fuse = d.fuse := by
        show (if 0 < d.fuse then d.fuse - 1 else d.fuse) = d.fuse
        rw [if_neg (by omega)]
      have hfit : Fit (writeD d a (chunk s)) := by rw [← hn]; exact hf.write _ _
      obtain ⟨d', e1, e2, e3, e4, e5, e6, e7⟩ := ih (writeD d a (chunk s)) (a + 1) (s.drop 128) (by rw [List.length_drop]; omega) hfit hdn (by rw [hfn]; exact hfu) (by rw [List.length_drop]; show a + 1 + _ ≤ d.stand.length; omega)
      refine ⟨d', ?_, e2, e3, e4.trans hfn, e5, fun i hi => ?_, fun i hi => ?_⟩
      · rw [appAll_step h0, if_pos hc, hn, e1]
      · rw [e6 i (by omega), seen_write, if_neg (by omega)]
      · cases i with
        | zero =>
          rw [Nat.add_zero, e6 a (by omega), seen_write, if_pos rfl]; rfl
        | succ i =>
          have := e7 i (by rw [List.length_drop]; omega)
          rw [List.drop_drop, show 128 + 128 * i = 128 * (i + 1) from by omega, show a + 1 + i = a + (i + 1) from by omega] at this
          exact this
end Go.Proofs.YtdkimcnlhmhpgaaGreat
