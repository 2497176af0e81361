/- -/
import Derived.Test.YtdkimcnlhmhpgaaGreatH36
import Derived.Test.YtdkimcnlhmhpgaaGreatH37
set_option linter.unusedVariables false
set_option linter.unusedSimpArgs false
namespace Go.Proofs.YtdkimcnlhmhpgaaGreat
open Go.RowKit
structure Quiet (d : DK) : Prop where
 down : d.down = false
 fuse : d.fuse < 0
 fit : Fit d
structure QS (P : Nat → Prop) (d d' : DK) : Prop where
 quiet : Quiet d'
 len : d'.stand.length = d.stand.length
 seen : ∀ k, k < d.stand.length → P k → seen d' k = seen d k
theorem QS.refl {P : Nat → Prop} {d : DK} (h : Quiet d) : QS P d d := ⟨h, rfl, fun _ _ _ => rfl⟩
theorem QS.trans {P : Nat → Prop} {a b c : DK} (h : QS P a b) (k : QS P b c) : QS P a c := ⟨k.quiet, k.len.trans h.len, fun i hi hp => (k.seen i (by rw [h.len]; exact hi) hp).trans (h.seen i hi hp)⟩
theorem Quiet.write {P : Nat → Prop} {d : DK} (h : Quiet d) (i : Int) (s : List UInt8) (hP : ∀ k : Nat, P k → (k : Int) ≠ i) : QS P d (wNext d i s) := by
 have hf := h.fit.write i s
 have hl := (wNext_ops d i s).2.2
 unfold wNext at hf hl ⊢
 split at hf
 ·rename_i hc
  rw [if_pos hc] at hl ⊢
  obtain ⟨h1, h2, h3⟩ := atOf_zero hc.1
  refine ⟨⟨?_, ?_, hf⟩, hl, fun k hk hp => ?_⟩
  ·show (if d.fuse = 0 then true else d.down) = false
   rw [if_neg (by have := h.fuse; omega), h.down]
  ·show (if 0 < d.fuse then d.fuse - 1 else d.fuse) < 0
   rw [if_neg (by have := h.fuse; omega)]; exact h.fuse
  ·rw [seen_write, if_neg]
   intro e
   have := hP k hp
   omega
 ·rename_i hc
  rw [if_neg hc]
  exact QS.refl h
theorem Quiet.flush {P : Nat → Prop} {d : DK} (h : Quiet d) : QS P d (fNext d) := by
 have hf := h.fit.flush
 unfold fNext at hf ⊢
 rw [if_neg (by rw [h.down]; simp), if_neg (by have := h.fuse; omega)] at hf ⊢
 refine ⟨⟨?_, ?_, hf⟩, settle_len _ _, fun k hk _ => ?_⟩
 ·show (if d.fuse = 0 then true else d.down) = false
  rw [if_neg (by have := h.fuse; omega), h.down]
 ·show (if 0 < d.fuse then d.fuse - 1 else d.fuse) < 0
  rw [if_neg (by have := h.fuse; omega)]; exact h.fuse
 ·exact seen_settle (opD d) k hk
def QR (P : Nat → Prop) (d : DK) (r : DK × Int) : Prop := QS P d r.1 ∧ r.2 ≠ 90
theorem Quiet.wcode {d : DK} (h : Quiet d) (i : Int) (s : List UInt8) : wCode d i s ≠ 90 := by
 have h1 := h.down
 have h2 := h.fuse
 unfold wCode
 by_cases hr : i < 0 ∨ (d.stand.length : Int) ≤ i
 ·have e : atOf d i = 5 := by unfold atOf; rw [h1, if_neg (by simp), if_pos hr]
  rw [e, if_pos (by decide)]; decide
 ·have e : atOf d i = 0 := by unfold atOf; rw [h1, if_neg (by simp), if_neg hr]
  rw [e, if_neg (by decide)]
  by_cases hs : s.length ≠ 128
  ·rw [if_pos hs]; decide
  ·rw [if_neg hs, if_neg (by omega)]; decide
theorem Quiet.fcode {d : DK} (h : Quiet d) : fCode d = 0 := by
 unfold fCode
 rw [if_neg (by rw [h.down]; simp), if_neg (by have := h.fuse; omega)]
theorem quiet_stepW {P : Nat → Prop} {d : DK} (h : Quiet d) (i : Int) (s : List UInt8) (hP : ∀ k : Nat, P k → (k : Int) ≠ i) : QR P d (stepW i s d) := ⟨h.write i s hP, h.wcode i s⟩
theorem quiet_stepF {P : Nat → Prop} {d : DK} (h : Quiet d) : QR P d (stepF d) := ⟨h.flush, by show fCode d ≠ 90; rw [h.fcode]; decide⟩
theorem quiet_putL (al : List Nat) : ∀ {P : Nat → Prop} {d : DK} (h : Quiet d) (s : List UInt8), (∀ k, P k → k ∉ al) → QR P d (putL al d s) := by
 induction al with
 | nil => intro P d h s _; exact ⟨QS.refl h, by show (0 : Int) ≠ 90; decide⟩
 | cons a t ih =>
  intro P d h s hP
  have h1 := h.write (P := P) (a : Int) (chunk s) (fun k hk e => hP k hk (by
    have : k = a := by omega
    subst this; exact List.mem_cons_self))
  unfold putL
  split
  ·have h2 := ih h1.quiet (s.drop 128) (P := P) (fun k hk hm => hP k hk (List.mem_cons_of_mem _ hm))
   exact ⟨h1.trans h2.1, h2.2⟩
  ·exact ⟨h1, h.wcode _ _⟩
theorem quiet_putX {P : Nat → Prop} {d : DK} (h : Quiet d) (l : List (Int × Int)) (s : List UInt8) (hP : ∀ k, P k → k ∉ secsL l) : QR P d (putX d l s) := by
 unfold putX
 split
 ·rw [if_neg (by rw [h.down]; simp)]
  exact quiet_putL _ h s hP
 ·exact ⟨QS.refl h, by show (1 : Int) ≠ 90; decide⟩
theorem quiet_appAll (n : Nat) : ∀ {P : Nat → Prop} {d : DK} (h : Quiet d) (a : Nat) (s : List UInt8), s.length ≤ n → (∀ k, P k → k < a ∨ a + (s.length + 127) / 128 ≤ k) → QR P d (appAll d a s) := by
 induction n with
 | zero =>
  intro P d h a s hs _
  have : s = [] := List.eq_nil_of_length_eq_zero (by omega)
  subst this
  exact ⟨QS.refl h, by show (0 : Int) ≠ 90; decide⟩
 | succ n ih =>
  intro P d h a s hs hP
  by_cases h0 : s = []
  ·subst h0; exact ⟨QS.refl h, by show (0 : Int) ≠ 90; decide⟩
  ·have hl : 0 < s.length := List.length_pos_iff.2 h0
   have h1 := h.write (P := P) (a : Int) (chunk s) (fun k hk e => by
    have := hP k hk
    omega)
   rw [appAll_step h0]
   split
   ·have h2 := ih h1.quiet (P := P) (a + 1) (s.drop 128) (by rw [List.length_drop]; omega) (fun k hk => by
     have := hP k hk
     rw [List.length_drop]
     omega)
    exact ⟨h1.trans h2.1, h2.2⟩
   ·exact ⟨h1, h.wcode _ _⟩
theorem quiet_append {P : Nat → Prop} {d : DK} (h : Quiet d) (j u : Int) (s : List UInt8) (hP : ∀ k : Nat, P k → 2 + j ≤ (k : Int)) : QR P d (appendD d j u s) := by
 unfold appendD
 split
 ·exact ⟨QS.refl h, by show (1 : Int) ≠ 90; decide⟩
 ·rename_i hf
  have hf : fitCode d.stand.length j u = 0 := by simpa using hf
  obtain ⟨f1, f2, f3, f4⟩ := fit_ok hf
  split
  ·exact ⟨QS.refl h, by show (100 : Int) ≠ 90; decide⟩
  ·rename_i hl
   rw [if_neg (by rw [h.down]; simp)]
   split
   ·exact ⟨QS.refl h, by show (0 : Int) ≠ 90; decide⟩
   ·refine quiet_appAll _ h _ _ (Nat.le_refl _) (fun k hk => Or.inr ?_)
    have h1 := hP k hk
    have h2 : ((seen d (2 + u.toNat / 128)).take (u.toNat % 128)).length ≤ u.toNat % 128 := by rw [List.length_take]; omega
    rw [List.length_append]
    omega
theorem quiet_chain {P : Nat → Prop} : ∀ (fs : List (DK → DK × Int)), (∀ f ∈ fs, ∀ d, Quiet d → QR P d (f d)) → ∀ {d}, Quiet d → QR P d (chainD fs d)
 | [], _, d, h => ⟨QS.refl h, by show (0 : Int) ≠ 90; decide⟩
 | f :: fs, hf, d, h => by
  have h1 := hf f (by simp) d h
  unfold chainD
  split
  ·have h2 := quiet_chain fs (fun g hg => hf g (by simp [hg])) h1.1.quiet
   exact ⟨h1.1.trans h2.1, h2.2⟩
  ·exact h1
theorem quiet_lay {P : Nat → Prop} (s : SB) (hP : ∀ k, P k → 2 ≤ k) {d : DK} (h : Quiet d) : QR P d (layD s d) := by
 refine quiet_chain [stepW ((s.seq % 2 : Nat) : Int) s.sector, stepF] (fun f hf d h => ?_) h
 simp only [List.mem_cons, List.not_mem_nil, or_false] at hf
 rcases hf with rfl | rfl
 ·exact quiet_stepW h _ _ (fun k hk e => by have := hP k hk; omega)
 ·exact quiet_stepF h
theorem quiet_setD {P : Nat → Prop} (s : SB) (t : List UInt8) (runs : List (Int × Int)) (hP : ∀ k, P k → 2 ≤ k ∧ k ∉ secsL runs) {d : DK} (h : Quiet d) : QR P d (setD s t runs d) := by
 refine quiet_chain [fun d => putX d runs t, stepF, layD (baseS s t.length runs)] (fun f hf d h => ?_) h
 simp only [List.mem_cons, List.not_mem_nil, or_false] at hf
 rcases hf with rfl | rfl | rfl
 ·exact quiet_putX h runs t (fun k hk => (hP k hk).2)
 ·exact quiet_stepF h
 ·exact quiet_lay _ (fun k hk => (hP k hk).1) h
def QV (P : Nat → Prop) (v : VS) (r : VS × Int) : Prop := QS P v.d r.1.d ∧ r.2 ≠ 90 ∧ r.1.dead = v.dead ∧ (r.2 ≠ 0 → r.1.c = v.c ∧ r.1.s = v.s)
theorem quiet_appendX {P : Nat → Prop} (c : JCat) (tx : List UInt8) (v : VS) (hP : ∀ k : Nat, P k → 2 ≤ k ∧ 2 + v.s.journal ≤ (k : Int)) (h : Quiet v.d) : QV P v (appendX c tx v) := by
 have h1 := quiet_append h v.s.journal v.s.used tx (fun k hk => (hP k hk).2)
 have h2 : QR P (appendD v.d v.s.journal v.s.used tx).1 (chainD [stepF, layD (nextS v.s (v.s.used + tx.length))] (appendD v.d v.s.journal v.s.used tx).1) := by
  refine quiet_chain _ (fun f hf d h => ?_) h1.1.quiet
  simp only [List.mem_cons, List.not_mem_nil, or_false] at hf
  rcases hf with rfl | rfl
  ·exact quiet_stepF h
  ·exact quiet_lay _ (fun k hk => (hP k hk).1) h
 unfold appendX
 split
 ·split
  ·exact ⟨h1.1.trans h2.1, by show (0 : Int) ≠ 90; decide, rfl, fun hh => absurd rfl hh⟩
  ·exact ⟨h1.1.trans h2.1, h2.2, rfl, fun _ => ⟨rfl, rfl⟩⟩
 ·exact ⟨h1.1, h1.2, rfl, fun _ => ⟨rfl, rfl⟩⟩
theorem quiet_settleX {P : Nat → Prop} (c : JCat) (t : List UInt8) (runs : List (Int × Int)) (v : VS) (hP : ∀ k, P k → 2 ≤ k ∧ k ∉ secsL runs) (h : Quiet v.d) : QV P v (settleX c t runs v) := by
 have h1 := quiet_setD (P := P) v.s t runs hP h
 unfold settleX
 split
 ·exact ⟨h1.1, by show (0 : Int) ≠ 90; decide, rfl, fun hh => absurd rfl hh⟩
 ·exact ⟨h1.1, h1.2, rfl, fun _ => ⟨rfl, rfl⟩⟩
theorem quiet_puts {P : Nat → Prop} : ∀ (l : List VC) (recs : List JRec), (∀ r ∈ recs, ∀ k, P k → k ∉ secsL r.runs) → ∀ f ∈ putsD l recs, ∀ d, Quiet d → QR P d (f d)
 | [], _, _, f, hf, _, _ => by simp [putsD] at hf
 | x :: l, [], _, f, hf, _, _ => by simp [putsD] at hf
 | x :: l, r :: recs, hr, f, hf, d, h => by
  have ih := quiet_puts l recs (fun q hq => hr q (by simp [hq])) f
  unfold putsD at hf
  split at hf
  ·rcases List.mem_cons.1 hf with rfl | hf
   ·exact quiet_putX h r.runs x.bytes (hr r (by simp))
   ·exact ih hf d h
  ·exact ih hf d h
theorem quiet_all {P : Nat → Prop} (fs : List (DK → DK × Int)) (g : VS → VS × Int) (v : VS) (hf : ∀ f ∈ fs, ∀ d, Quiet d → QR P d (f d)) (hg : ∀ u : VS, u.s = v.s → u.c = v.c → u.dead = v.dead → Quiet u.d → QV P u (g u)) (h : Quiet v.d) : QV P v (chainV (fs.map onD ++ [g]) v) := by
 have h1 := quiet_chain fs hf h
 rw [chainV_append, chainV_onD]
 have e2 : (onD (chainD fs) v).2 = (chainD fs v.d).2 := rfl
 by_cases h0 : (onD (chainD fs) v).2 = 0
 ·rw [if_pos h0]
  have h2 := hg (onD (chainD fs) v).1 rfl rfl rfl h1.1.quiet
  show QV P v (if (g (onD (chainD fs) v).1).2 = 0 then ((g (onD (chainD fs) v).1).1, 0) else g (onD (chainD fs) v).1)
  obtain ⟨a, b, c, d⟩ := h2
  split
  ·exact ⟨h1.1.trans a, by show (0 : Int) ≠ 90; decide, c, fun hh => absurd rfl hh⟩
  ·exact ⟨h1.1.trans a, b, c, d⟩
 ·rw [if_neg h0]
  exact ⟨h1.1, h1.2, rfl, fun _ => ⟨rfl, rfl⟩⟩
theorem secs_hasB {l : List (Int × Int)} (h : ∀ a ∈ l, 0 ≤ a.1) {k : Nat} (hk : k ∈ secsL l) : hasB l k = true := by
 obtain ⟨r, hr, h1, h2⟩ := secsL_mem hk
 have := h r hr
 exact hasB_iff.2 ⟨r, hr, by omega, by omega⟩
theorem pl_low {l : List (Int × Int)} (h : Pl 0 l) : ∀ a ∈ l, 0 ≤ a.1 := fun a ha => (h.mem ha).1
theorem canon_lt {f : Nat → Bool} {k : Nat} (h : hasB (canon f) k = true) : k < 8192 ∧ f k = true := by
 obtain ⟨m, h1, h2, h3⟩ := (canon_is f k).1 (hasB_iff.1 h)
 have : m = k := by omega
 subst this
 exact ⟨h2, h3⟩
theorem minus_has {a b : List (Int × Int)} {k : Nat} (h : hasB (minusL a b) k = true) : hasB a k = true ∧ hasB b k = false ∧ k < 8192 := by
 obtain ⟨h1, h2⟩ := canon_lt h
 simp only [Bool.and_eq_true, Bool.not_eq_true'] at h2
 exact ⟨h2.1, h2.2, h1⟩
theorem low_has {l : List (Int × Int)} {n : Int} {k : Nat} (h : hasB (lowestL l n) k = true) : hasB l k = true := by
 obtain ⟨_, h2⟩ := canon_lt h
 unfold lowF at h2
 simp only [Bool.and_eq_true] at h2
 exact h2.1
theorem low_pl (l : List (Int × Int)) (n : Int) : Pl 0 (lowestL l n) := canon_pl _
theorem minus_pl (a b : List (Int × Int)) : Pl 0 (minusL a b) := canon_pl _
theorem room_has {v : VS} {k : Nat} (h : hasB (roomX v) k = true) : 2 + v.s.journal ≤ (k : Int) ∧ (k : Int) < v.s.sectors ∧ hasB (runsC v.c) k = false ∧ hasB v.s.runs k = false := by
 obtain ⟨h1, h2, h3⟩ := minus_has h
 rw [hasB_append, Bool.or_eq_false_iff] at h2
 obtain ⟨r, hr, h4, h5⟩ := hasB_iff.1 h1
 obtain rfl : r = (2 + v.s.journal, v.s.sectors - (2 + v.s.journal)) := by simpa using hr
 simp only at h4 h5
 exact ⟨by omega, by omega, h2.1, h2.2⟩
theorem plan_left (left : List (Int × Int)) (l : List VC) : ∀ j, j ≤ l.length → ∀ k, hasB (planAt left l j).2 k = true → hasB left k = true
 | 0, _, k, h => h
 | j + 1, hj, k, h => by
  rw [planAt_succ left l j (by omega)] at h
  unfold plan1 at h
  split at h
  ·exact plan_left left l j (by omega) k (minus_has h).1
  ·exact plan_left left l j (by omega) k h
theorem plan_runs (left : List (Int × Int)) (l : List VC) : ∀ j, j ≤ l.length → ∀ r ∈ (planAt left l j).1, Pl 0 r.runs ∧ ∀ k, hasB r.runs k = true → hasB left k = true
 | 0, _, r, hr => by simp [planAt] at hr
 | j + 1, hj, r, hr => by
  rw [planAt_succ left l j (by omega)] at hr
  unfold plan1 at hr
  split at hr
  ·rcases List.mem_append.1 hr with hr | hr
   ·exact plan_runs left l j (by omega) r hr
   ·obtain rfl := List.mem_singleton.1 hr
    exact ⟨low_pl _ _, fun k hk => plan_left left l j (by omega) k (low_has hk)⟩
  ·rcases List.mem_append.1 hr with hr | hr
   ·exact plan_runs left l j (by omega) r hr
   ·obtain rfl := List.mem_singleton.1 hr
    exact ⟨trivial, fun k hk => by simp [VC.told, hasB] at hk⟩
theorem wf_of_pl {l : List (Int × Int)} (h : Pl 0 l) : ∀ a ∈ l, WfRun a := fun a ha => by
 have := h.mem ha
 unfold WfRun
 omega
theorem planAt_take (left : List (Int × Int)) (l : List VC) (j k : Nat) (h : k ≤ j) (hj : j ≤ l.length) : (planAt left l j).1.take k = (planAt left l k).1 := by
 induction j with
 | zero =>
   obtain rfl : k = 0 := by omega
   rfl
 | succ j ih =>
  by_cases e : k = j + 1
  ·subst e
   rw [List.take_of_length_le (by rw [planAt_len left l _ hj]; omega)]
  ·rw [planAt_succ left l j (by omega)]
   have h1 := ih (by omega) (by omega)
   have hl := planAt_len left l j (by omega)
   unfold plan1
   split
   ·rw [List.take_append_of_le_length (by omega)]; exact h1
   ·rw [List.take_append_of_le_length (by omega)]; exact h1
theorem planAt_at (left : List (Int × Int)) (l : List VC) (k : Nat) (h : k < l.length) (h' : k < (planAt left l l.length).1.length) : (planAt left l l.length).1[k] = if kBlob l[k].kind then ⟨l[k].kind, l[k].id, l[k].name, l[k].bytes.length, lowestL (planAt left l k).2 (need l[k].bytes.length)⟩ else l[k].told := by
 have h1 := planAt_take left l l.length (k + 1) (by omega) (Nat.le_refl _)
 have h2 := planAt_len left l k (by omega)
 rw [planAt_succ left l k h] at h1
 have h3 : ((planAt left l l.length).1.take (k + 1))[k]? = some (planAt left l l.length).1[k] := by
  rw [List.getElem?_take, if_pos (by omega), List.getElem?_eq_getElem h']
 rw [h1] at h3
 unfold plan1 at h3
 split at h3 <;> rename_i hb
 ·rw [List.getElem?_append_right (by omega), h2, Nat.sub_self] at h3
  rw [if_pos hb]
  exact (Option.some.inj h3).symm
 ·rw [List.getElem?_append_right (by omega), h2, Nat.sub_self] at h3
  rw [if_neg hb]
  exact (Option.some.inj h3).symm
def nameP (nm : List UInt8) : JItem → Bool := fun x => x.name == nm
theorem find_ins {p : JItem → Bool} {l : List JItem} {x : JItem} (h : p x = false) : (insI l x).find? p = l.find? p := by
 unfold insI
 rw [List.find?_append, List.find?_cons, h]
 conv => rhs; rw [← List.take_append_drop (posI l x) l, List.find?_append]
theorem find_del {p : JItem → Bool} {l : List JItem} {i : Nat} (hi : i < l.length) (h : p l[i] = false) : (delI l i).find? p = l.find? p := by
 unfold delI
 rw [List.find?_append]
 conv => rhs; rw [← List.take_append_drop i l, List.find?_append, List.drop_eq_getElem_cons hi, List.find?_cons, h]
theorem findX_iff {p : JItem → Bool} {l : List JItem} {x : JItem} : findX p l = (x, true) ↔ l.find? p = some x := by
 unfold findX
 cases l.find? p with
 | none => simp
 | some y => simp
theorem one_hold {c : JCat} {r : JRec} {nm : List UInt8} {x : JItem} (hc : mayC c) (hr : mayR r = true) (h0 : (oneX c r).2 = 0) (hx : c.names.find? (nameP nm) = some x) (hn : ¬ (r.kind = 6 ∧ r.name = nm)) : (oneX c r).1.names.find? (nameP nm) = some x := by
 have hxm := List.mem_of_find?_eq_some hx
 have hxn : x.name = nm := by have := List.find?_some hx; simpa [nameP] using this
 have hid := (mayR_name (hc.names.2.1 x hxm)).1
 unfold oneX at h0 ⊢
 split
 ·exact hx
 ·split
  ·exact hx
  ·split
   ·rename_i k1 k2 k3
    rw [if_neg k1, if_neg k2, if_pos k3] at h0
    have hrid : r.item.id = 0 := (mayR_name (a := r.item) (by rw [told_of k3]; exact hr)).1
    have h0 : (comesX c.names r.item 0 256 false).2 = 0 := h0
    show (comesX c.names r.item 0 256 false).1.find? _ = _
    unfold comesX at h0 ⊢
    rw [if_neg (by simp)] at h0 ⊢
    by_cases h2 : hasK c.names r.item ∨ r.item.id < 0
    ·rw [if_pos h2] at h0; cases h0
    ·rw [if_neg h2] at h0 ⊢
     by_cases h3 : 256 ≤ c.names.length
     ·rw [if_pos h3] at h0; cases h0
     ·rw [if_neg h3]
      rw [find_ins]
      ·exact hx
      ·cases hp : nameP nm r.item
       ·rfl
       ·exfalso
        have e : r.item.name = nm := by simpa [nameP] using hp
        exact h2 (Or.inl (hasK_iff.2 ⟨x, hxm, eqK_iff.2 ⟨by rw [hid, hrid], by rw [hxn, e]⟩⟩))
   ·split
    ·exact hx
    ·split
     ·exact hx
     ·rename_i k1 k2 k3 k4 k5
      rw [if_neg k1, if_neg k2, if_neg k3, if_neg k4, if_neg k5] at h0
      have h0 : (goesX c.names r.item).2 = 0 := h0
      show (goesX c.names r.item).1.find? _ = _
      unfold goesX at h0 ⊢
      by_cases h1 : hasK c.names r.item
      ·rw [if_pos h1] at h0 ⊢
       rw [find_del h1]
       ·exact hx
       ·have h2 := (eqK_iff.1 (idxK_at h1)).2
        have h6 : r.kind = 6 := by rcases may_kind hr with h | h | h | h | h | h <;> first | exact h | exact absurd h (by assumption)
        cases hp : nameP nm (c.names[idxK c.names r.item]'h1)
        ·rfl
        ·exfalso
         have e : (c.names[idxK c.names r.item]'h1).name = nm := by simpa [nameP] using hp
         exact hn ⟨h6, by rw [← e, h2]; rfl⟩
      ·rw [if_neg h1] at h0; cases h0
theorem recs_hold {nm : List UInt8} {x : JItem} : ∀ (l : List JRec) {c : JCat}, mayC c → (∀ r ∈ l, 0 ≤ r.id) → (recsX c l).2 = 0 → c.names.find? (nameP nm) = some x → (∀ r ∈ l, ¬ (r.kind = 6 ∧ r.name = nm)) → (recsX c l).1.names.find? (nameP nm) = some x
 | [], c, _, _, _, hx, _ => hx
 | r :: l, c, hc, hid, h0, hx, hn => by
  unfold recsX at h0 ⊢
  by_cases h1 : mayR r = true
  ·rw [if_pos h1] at h0 ⊢
   by_cases h2 : (oneX c r).2 = 0
   ·rw [if_pos h2] at h0 ⊢
    exact recs_hold l (one_may hc h1 (hid r (by simp)) h2) (fun q hq => hid q (by simp [hq])) h0 (one_hold hc h1 h2 hx (hn r (by simp))) (fun q hq => hn q (by simp [hq]))
   ·rw [if_neg h2] at h0; exact absurd h0 h2
  ·rw [if_neg h1] at h0; cases h0
theorem names_runs {c : JCat} {x : JItem} (h : x ∈ c.names) {k : Nat} (hk : hasB x.runs k = true) : hasB (runsC c) k = true := by
 obtain ⟨r, hr, h1⟩ := hasB_iff.1 hk
 refine hasB_iff.2 ⟨r, ?_, h1⟩
 unfold runsC catR
 rw [List.mem_flatten]
 refine ⟨x.runs, List.mem_map.2 ⟨x.told 3, ?_, rfl⟩, hr⟩
 simp only [List.mem_append, List.mem_map]
 exact Or.inr ⟨x, h, rfl⟩
structure Holds (nm data : List UInt8) (v : VS) : Prop where
 quiet : Quiet v.d
 dead : v.dead = false
 cat : mayC v.c
 item : ∃ x, v.c.names.find? (nameP nm) = some x ∧ getCode v.d x.runs x.size = 0 ∧ getX v.d x.runs x.size = data ∧ (∀ a ∈ x.runs, 0 ≤ a.1) ∧ ∀ k ∈ secsL x.runs, 2 ≤ k ∧ 2 + v.s.journal ≤ (k : Int)
theorem getCode_qs {P : Nat → Prop} {d d' : DK} (h : Quiet d) (k : QS P d d') (l : List (Int × Int)) (n : Int) (h0 : getCode d l n = 0) (hP : ∀ i ∈ secsL l, P i) : getCode d' l n = 0 ∧ getX d' l n = getX d l n := by
 have hx : FitX l d.stand.length n := by
  apply Classical.byContradiction
  intro hh
  unfold getCode at h0
  rw [if_neg hh] at h0
  cases h0
 have h1 : getCode d' l n = 0 := by
  unfold getCode
  rw [k.len, if_pos hx, if_neg (by rw [k.quiet.down]; simp)]
 refine ⟨h1, ?_⟩
 unfold getX
 rw [if_pos h1, if_pos h0, getL_same (d := d) (d' := d') (secsL l) (fun a ha => k.seen a (by have := (hx.lt ha).1; omega) (hP a ha))]
theorem holds_read {nm data : List UInt8} {v : VS} (h : Holds nm data v) (id : Int) : readX v 3 id nm = (data, 0, v) := by
 obtain ⟨x, h1, h2, h3, _⟩ := h.item
 have e : askX v.c 3 id nm = (x, true) := by
  unfold askX
  rw [if_neg (by decide), if_neg (by decide)]
  exact findX_iff.2 h1
 unfold readX
 rw [if_neg (by rw [h.dead]; simp), if_neg (by simp), e, if_neg (by simp)]
 simp only [h2, h3]
 obtain ⟨d, s, c, dead⟩ := v
 have hd : dead = false := h.dead
 rw [hd]
 rfl
theorem holds_of {nm data : List UInt8} {v v' : VS} {P : Nat → Prop} (h : Holds nm data v) {x : JItem} (hx : v.c.names.find? (nameP nm) = some x) (k : QS P v.d v'.d) (hP : ∀ i ∈ secsL x.runs, P i) (hd : v'.dead = false) (hc : mayC v'.c) (hj : v'.s.journal = v.s.journal) (hf : v'.c.names.find? (nameP nm) = some x) : Holds nm data v' := by
 obtain ⟨y, h1, h2, h3, h4, h5⟩ := h.item
 rw [hx] at h1
 obtain rfl := Option.some.inj h1
 obtain ⟨g1, g2⟩ := getCode_qs h.quiet k _ _ h2 hP
 exact ⟨k.quiet, hd, hc, x, hf, g1, g2.trans h3, h4, by rw [hj]; exact h5⟩
theorem tell_qv {P : Nat → Prop} {v : VS} {r : VS × Int} (h : QV P v r) (hd : v.dead = false) : (tellX r).1.dead = false ∧ QS P v.d (tellX r).1.d ∧ (tellX r).1.c = r.1.c ∧ (tellX r).1.s = r.1.s ∧ (tellX r).2 = r.2 := by
 obtain ⟨a, b, c, _⟩ := h
 refine ⟨?_, a, rfl, rfl, rfl⟩
 show (r.1.dead || r.2 == 90) = false
 rw [c, hd]
 simpa using b
theorem appendX_ok {c : JCat} {tx : List UInt8} {v : VS} (h : (appendX c tx v).2 = 0) : (appendX c tx v).1.c = c ∧ (appendX c tx v).1.s.journal = v.s.journal := by
 unfold appendX at h ⊢
 split
 ·rename_i h1
  rw [if_pos h1] at h
  split
  ·exact ⟨rfl, rfl⟩
  ·rename_i h2
   rw [if_neg h2] at h
   exact absurd h h2
 ·rename_i h1
  rw [if_neg h1] at h
  exact absurd h h1
theorem settleX_ok {c : JCat} {t : List UInt8} {runs : List (Int × Int)} {v : VS} (h : (settleX c t runs v).2 = 0) : (settleX c t runs v).1.c = c ∧ (settleX c t runs v).1.s.journal = v.s.journal := by
 unfold settleX at h ⊢
 split
 ·exact ⟨rfl, rfl⟩
 ·rename_i h2
  rw [if_neg h2] at h
  exact absurd h h2
theorem all_ok {fs : List (DK → DK × Int)} {g : VS → VS × Int} {v : VS} {c : JCat} (hg : ∀ u : VS, u.s = v.s → (g u).2 = 0 → (g u).1.c = c ∧ (g u).1.s.journal = u.s.journal) (h : (chainV (fs.map onD ++ [g]) v).2 = 0) : (chainV (fs.map onD ++ [g]) v).1.c = c ∧ (chainV (fs.map onD ++ [g]) v).1.s.journal = v.s.journal := by
 rw [chainV_append] at h ⊢
 by_cases h0 : (chainV (fs.map onD) v).2 = 0
 ·rw [if_pos h0] at h ⊢
  rw [chainV_onD] at h h0 ⊢
  have e : chainV [g] (onD (chainD fs) v).1 = if (g (onD (chainD fs) v).1).2 = 0 then ((g (onD (chainD fs) v).1).1, 0) else g (onD (chainD fs) v).1 := rfl
  rw [e] at h ⊢
  by_cases h1 : (g (onD (chainD fs) v).1).2 = 0
  ·rw [if_pos h1]
   exact hg (onD (chainD fs) v).1 rfl h1
  ·rw [if_neg h1] at h
   exact absurd h h1
 ·rw [if_neg h0] at h
  exact absurd h h0
theorem holds_step {nm data : List UInt8} {v : VS} (h : Holds nm data v) (fs : List (DK → DK × Int)) (g : VS → VS × Int) (c : JCat) (hcm : mayC c)
  (hf : ∀ x, v.c.names.find? (nameP nm) = some x → (∀ f ∈ fs, ∀ d, Quiet d → QR (fun k => k ∈ secsL x.runs) d (f d)) ∧ (∀ u : VS, u.s = v.s → u.c = v.c → u.dead = v.dead → Quiet u.d → QV (fun k => k ∈ secsL x.runs) u (g u)))
  (hg : ∀ u : VS, u.s = v.s → (g u).2 = 0 → (g u).1.c = c ∧ (g u).1.s.journal = u.s.journal)
  (hname : (chainV (fs.map onD ++ [g]) v).2 = 0 → ∀ x, v.c.names.find? (nameP nm) = some x → c.names.find? (nameP nm) = some x) :
  Holds nm data (tellX (chainV (fs.map onD ++ [g]) v)).1 := by
 obtain ⟨x, h1, h2, h3, h4, h5⟩ := h.item
 obtain ⟨f1, f2⟩ := hf x h1
 have hq := quiet_all fs g v f1 f2 h.quiet
 obtain ⟨t1, t2, t3, t4, t5⟩ := tell_qv hq h.dead
 by_cases h0 : (chainV (fs.map onD ++ [g]) v).2 = 0
 ·obtain ⟨e1, e2⟩ := all_ok hg h0
  exact holds_of h h1 t2 (fun i hi => hi) t1 (by rw [t3, e1]; exact hcm) (by rw [t4, e2]) (by rw [t3, e1]; exact hname h0 x h1)
 ·obtain ⟨e1, e2⟩ := hq.2.2.2 h0
  exact holds_of h h1 t2 (fun i hi => hi) t1 (by rw [t3, e1]; exact h.cat) (by rw [t4, e2]) (by rw [t3, e1]; exact h1)
theorem plan_kinds (left : List (Int × Int)) (l : List VC) (nm : List UInt8) (hn : ∀ x ∈ l, ¬ (x.kind = 6 ∧ x.name = nm)) : ∀ r ∈ (planAt left l l.length).1, ¬ (r.kind = 6 ∧ r.name = nm) := by
 intro r hr
 obtain ⟨k, hk, rfl⟩ := List.mem_iff_getElem.1 hr
 have hk' : k < l.length := by rw [planAt_len left l _ (Nat.le_refl _)] at hk; exact hk
 rw [planAt_at left l k hk' hk]
 have := hn l[k] (List.getElem_mem hk')
 split <;> exact this
theorem plan_ids (left : List (Int × Int)) (l : List VC) (hn : ∀ x ∈ l, 0 ≤ x.id) : ∀ r ∈ (planAt left l l.length).1, 0 ≤ r.id := by
 intro r hr
 obtain ⟨k, hk, rfl⟩ := List.mem_iff_getElem.1 hr
 have hk' : k < l.length := by rw [planAt_len left l _ (Nat.le_refl _)] at hk; exact hk
 rw [planAt_at left l k hk' hk]
 have := hn l[k] (List.getElem_mem hk')
 split <;> exact this
theorem secs_low {x : JItem} {l : List (Int × Int)} {v : VS} {c : JCat} (hx : x ∈ v.c.names) (h4 : ∀ a ∈ x.runs, 0 ≤ a.1) (hl : Pl 0 l) (hr : ∀ k, hasB l k = true → hasB (roomX v) k = true) : ∀ k ∈ secsL x.runs, k ∉ secsL l := fun k hk hm => by
 have h1 := (room_has (hr k (secs_hasB (pl_low hl) hm))).2.2.1
 rw [names_runs hx (secs_hasB h4 hk)] at h1
 cases h1
open Classical in
theorem holds_change {nm data : List UInt8} {v : VS} (h : Holds nm data v) (l : List VC) (hid : ∀ x ∈ l, 0 ≤ x.id) (hn : (changeX v l).2 = 0 → ∀ x ∈ l, ¬ (x.kind = 6 ∧ x.name = nm)) : Holds nm data (changeX v l).1 := by
 have hitem := h.item
 unfold changeX at hn ⊢
 rw [if_neg (by rw [h.dead]; simp)] at hn ⊢
 split
 ·exact h
 ·rename_i c1
  rw [if_neg c1] at hn
  split
  ·exact h
  ·rename_i c2
   rw [if_neg c2] at hn
   split
   ·exact h
   ·rename_i c3
    rw [if_neg c3] at hn
    have c3 : (applyX v.c (planAt (roomX v) l l.length).1).2 = 0 := by simpa using c3
    have hap : applyX v.c (planAt (roomX v) l l.length).1 = recsX v.c (planAt (roomX v) l l.length).1 := by unfold applyX; rw [if_pos h.cat]
    have hcm : mayC (applyX v.c (planAt (roomX v) l l.length).1).1 := by
     rw [hap] at c3 ⊢
     exact recs_may h.cat (plan_ids _ _ hid) c3
    have hpr := plan_runs (roomX v) l l.length (Nat.le_refl _)
    have hnm : (∀ x ∈ l, ¬ (x.kind = 6 ∧ x.name = nm)) → ∀ x, v.c.names.find? (nameP nm) = some x → (applyX v.c (planAt (roomX v) l l.length).1).1.names.find? (nameP nm) = some x := fun hn x hx => by
     rw [hap] at c3 ⊢
     exact recs_hold _ h.cat (plan_ids _ _ hid) c3 hx (plan_kinds _ _ _ hn)
    have hputs : ∀ x, v.c.names.find? (nameP nm) = some x → ∀ f ∈ putsD l (planAt (roomX v) l l.length).1, ∀ d, Quiet d → QR (fun k => k ∈ secsL x.runs) d (f d) := fun x hx => by
     obtain ⟨y, y1, y2, y3, y4, y5⟩ := hitem
     rw [hx] at y1
     obtain rfl := Option.some.inj y1
     exact quiet_puts _ _ (fun r hr => secs_low (c := v.c) (List.mem_of_find?_eq_some hx) y4 (hpr r hr).1 (hpr r hr).2)
    split
    ·exact h
    ·rename_i c4
     rw [if_neg c4] at hn
     split
     ·rename_i c5
      rw [if_pos c5] at hn
      have e : putsX l (planAt (roomX v) l l.length).1 ++ [onD stepF, appendX (applyX v.c (planAt (roomX v) l l.length).1).1 (txOut (planAt (roomX v) l l.length).1)] = (putsD l (planAt (roomX v) l l.length).1 ++ [stepF]).map onD ++ [appendX (applyX v.c (planAt (roomX v) l l.length).1).1 (txOut (planAt (roomX v) l l.length).1)] := by
       unfold putsX; simp
      rw [e] at hn ⊢
      refine holds_step h _ _ _ hcm (fun x hx => ⟨fun f hf d hd => ?_, fun u u1 u2 u3 hq => ?_⟩) (fun u u1 h0 => appendX_ok h0) (fun h0 => hnm (hn h0))
      ·rcases List.mem_append.1 hf with hf | hf
       ·exact hputs x hx f hf d hd
       ·obtain rfl := List.mem_singleton.1 hf
        exact quiet_stepF hd
      ·obtain ⟨y, y1, y2, y3, y4, y5⟩ := hitem
       rw [hx] at y1
       obtain rfl := Option.some.inj y1
       exact quiet_appendX _ _ u (by rw [u1]; exact y5) hq
     ·rename_i c5
      rw [if_neg c5] at hn
      split
      ·exact h
      ·rename_i c6
       rw [if_neg c6] at hn
       split
       ·exact h
       ·rename_i c7
        rw [if_neg c7] at hn
        unfold putsX at hn ⊢
        refine holds_step h _ _ _ hcm (fun x hx => ⟨fun f hf d hd => hputs x hx f hf d hd, fun u u1 u2 u3 hq => ?_⟩) (fun u u1 h0 => settleX_ok h0) (fun h0 => hnm (hn h0))
        obtain ⟨y, y1, y2, y3, y4, y5⟩ := hitem
        rw [hx] at y1
        obtain rfl := Option.some.inj y1
        exact quiet_settleX _ _ _ u (fun k hk => ⟨(y5 k hk).1, secs_low (c := v.c) (List.mem_of_find?_eq_some hx) y4 (low_pl _ _) (fun k hk => plan_left (roomX v) l l.length (Nat.le_refl _) k (low_has hk)) k hk⟩) hq
theorem holds_checkpoint {nm data : List UInt8} {v : VS} (h : Holds nm data v) : Holds nm data (checkpointX v).1 := by
 unfold checkpointX
 rw [if_neg (by rw [h.dead]; simp)]
 split
 ·exact h
 ·split
  ·exact h
  ·have e : ∀ r : VS × Int, tellX r = tellX r := fun _ => rfl
   have hs : ∀ g : VS → VS × Int, Holds nm data (tellX (chainV (([] : List (DK → DK × Int)).map onD ++ [g]) v)).1 → Holds nm data (tellX (g v)).1 := fun g hh => by
    have e1 : chainV (([] : List (DK → DK × Int)).map onD ++ [g]) v = g v := by
     show (if (g v).2 = 0 then ((g v).1, 0) else g v) = g v
     split
     ·rename_i h0; rw [← h0]
     ·rfl
    rw [e1] at hh
    exact hh
   refine hs _ (holds_step h [] _ _ h.cat (fun x hx => ⟨fun f hf => by simp at hf, fun u u1 u2 u3 hq => ?_⟩) (fun u u1 h0 => settleX_ok h0) (fun _ x hx => hx))
   obtain ⟨y, y1, y2, y3, y4, y5⟩ := h.item
   rw [hx] at y1
   obtain rfl := Option.some.inj y1
   exact quiet_settleX _ _ _ u (fun k hk => ⟨(y5 k hk).1, secs_low (c := v.c) (List.mem_of_find?_eq_some hx) y4 (low_pl _ _) (fun k hk => low_has hk) k hk⟩) hq
end Go.Proofs.YtdkimcnlhmhpgaaGreat
