/- Layer 9 (disk): writes on a disk whose power never goes, and what is left of them: plain laws; a write wherever it goes. -/
import Derived.Test.YtkhbobjfmedimaaD16
import Derived.Test.YtkhbobjfmedimaaIn6
namespace Go.Proofs.Ytkhbobjfmedimaa
open Go.RowKit Go.Maps
set_option linter.unusedVariables false
set_option linter.unusedSimpArgs false

theorem getD_of {α : Type} [Inhabited α] (l : List α) (k : Nat) (h : k < l.length) : l.getD k default = l[k] := by
  rw [List.getD_eq_getElem?_getD, List.getElem?_eq_getElem h]; rfl
theorem DiskAt.lo_ {w : World} {b sb mb lo : Nat} {d : DK} (h : DiskAt w b sb mb lo d) : b < lo ∧ lo ≤ w.heap.size ∧ d.stand.length ≤ 8192 := by
  obtain ⟨_, _, _, _, _, _, _, _, _, _, h5, h6, h7, h8, _⟩ := h
  exact ⟨h5, h6, h8⟩
theorem DiskAt.drew {w : World} {b sb mb lo : Nat} {d : DK} (h : DiskAt w b sb mb lo d) : DiskAt w.drew b sb mb lo d := h
theorem DKept.of_drew {b sb mb lo : Nat} {w w' : World} (h : DKept b sb mb lo w.drew w') : DKept b sb mb lo w w' := h
/-- a write on a disk whose power never goes. -/
def putD (d : DK) (i : Int) (s : List UInt8) : DK := if 0 ≤ i ∧ i < d.stand.length then ⟨d.stand, d.waits ++ [(i.toNat, s)], d.fuse, d.ops + 1, d.down⟩ else d
/-- the first k of them. -/
def putN (d : DK) (l : List DAct) : Nat → DK
  | 0 => d
  | k + 1 => putD (putN d l k) (l.getD k default).i (sectorL (l.getD k default).s)
structure PutFacts (d : DK) (l : List DAct) (k : Nat) (e : DK) : Prop where
  stand : e.stand = d.stand
  fuse : e.fuse = -1
  down : e.down = false
  ops : e.ops ≤ d.ops + k
  len : e.waits.length ≤ d.waits.length + k
  each : ∀ x ∈ e.waits, x ∈ d.waits ∨ (x.1 < d.stand.length ∧ ∃ j, j < k ∧ (l.getD j default).i = x.1 ∧ x.2 = sectorL (l.getD j default).s)
theorem putN_facts (d : DK) (l : List DAct) (hf : d.fuse = -1) (hd : d.down = false) (k : Nat) : PutFacts d l k (putN d l k) := by
  induction k with
  | zero => exact ⟨rfl, hf, hd, Nat.le_refl _, Nat.le_refl _, fun x hx => Or.inl hx⟩
  | succ k ih =>
    obtain ⟨h1, h2, h3, h4, h5, h6⟩ := ih
    show PutFacts d l (k + 1) (putD (putN d l k) (l.getD k default).i (sectorL (l.getD k default).s))
    unfold putD
    split
    · rename_i hh
      rw [h1] at hh
      refine ⟨h1, h2, h3, by show _ + 1 ≤ _; omega, by show (List.length (_ ++ _)) ≤ _; rw [List.length_append, List.length_singleton]; omega, fun x hx => ?_⟩
      have hx : x ∈ (putN d l k).waits ++ [((l.getD k default).i.toNat, sectorL (l.getD k default).s)] := hx
      rw [List.mem_append] at hx
      rcases hx with hx | hx
      · rcases h6 x hx with h | ⟨g1, j, g2, g3⟩
        · exact Or.inl h
        · exact Or.inr ⟨g1, j, by omega, g3⟩
      · have hx : x = ((l.getD k default).i.toNat, sectorL (l.getD k default).s) := by simpa using hx
        subst hx
        exact Or.inr ⟨by show (l.getD k default).i.toNat < _; omega, k, by omega, by show _ = (((l.getD k default).i.toNat : Nat) : Int); omega, rfl⟩
    · refine ⟨h1, h2, h3, by omega, by omega, fun x hx => ?_⟩
      rcases h6 x hx with h | ⟨g1, j, g2, g3⟩
      · exact Or.inl h
      · exact Or.inr ⟨g1, j, by omega, g3⟩
theorem dPut (b sb mb lo : Nat) (d : DK) (i : Int) (s : List UInt8) (w : World) (h : DiskAt w b sb mb lo d) (hd : d.down = false) (hf : d.fuse = -1) (hs : s.length = 128) (ho : d.ops < 100000) (hwl : d.waits.length ≤ 10000) :
    Calls Try.prog 8 #[.pointer (some ⟨b, 0, none⟩), .int .i64 i, .string (bs s)] w fun e w' => (∃ x : Int, e = .returned (.int .i64 x)) ∧ DiskAt w' b sb mb lo (putD d i s) ∧ DKept b sb mb lo w w' := by
  by_cases hi : 0 ≤ i ∧ i < d.stand.length
  · obtain ⟨n, rfl⟩ := Int.eq_ofNat_of_zero_le hi.1
    refine (dWrite b sb mb lo d n s w h hd (by omega) hs ho hwl).mono fun e w' ⟨h1, h2, h3⟩ => ⟨⟨_, h1⟩, ?_, h3⟩
    have e1 : putD d (n : Int) s = writeD d n s := by
      unfold putD writeD opD
      rw [if_pos hi, hf, if_neg (by omega), if_neg (by omega)]
      rfl
    rw [e1]; exact h2
  · have hno : atOf d i ≠ 0 := by
      unfold atOf
      rw [hd, if_neg (by simp), if_pos (by omega)]
      omega
    refine (dWrite_no b sb mb lo d i (bs s) w h hno).mono fun e w' ⟨h1, h2⟩ => ⟨⟨_, h1⟩, ?_, ?_⟩
    · subst h2
      unfold putD
      rw [if_neg hi]
      exact h
    · subst h2; exact DKept.refl _ _ _ _ _
/-- what is left of a sector when some writes are settled: what stood, or one of those kept. -/
theorem sk_each (st : List (List UInt8)) (ws : List (Nat × List UInt8)) (keep : Nat → Bool) (n k : Nat) (hk : k < st.length) (hn : n ≤ ws.length) :
    (sk st ws keep n)[k]? = st[k]? ∨ ∃ x ∈ ws, (∃ j, keep j = true) ∧ x.1 = k ∧ (sk st ws keep n)[k]? = some x.2 := by
  induction n with
  | zero => exact Or.inl rfl
  | succ n ih =>
    rw [sk_succ st ws keep n (by omega)]
    split
    · rename_i hkeep
      by_cases e : ws[n].1 = k
      · refine Or.inr ⟨ws[n], List.getElem_mem _, ⟨n, hkeep⟩, e, ?_⟩
        rw [e, List.getElem?_set_self (by rw [sk_len]; exact hk)]
      · rw [List.getElem?_set_ne e]
        exact ih (by omega)
    · exact ih (by omega)
theorem sk_all {p : List UInt8 → Prop} (st : List (List UInt8)) (ws : List (Nat × List UInt8)) (keep : Nat → Bool) (hs : ∀ s ∈ st, p s) (hw : ∀ x ∈ ws, p x.2) (n : Nat) (hn : n ≤ ws.length) : ∀ s ∈ sk st ws keep n, p s := by
  induction n with
  | zero => exact hs
  | succ n ih =>
    rw [sk_succ st ws keep n (by omega)]
    intro s h
    split at h
    · rcases List.mem_or_eq_of_mem_set h with h | h
      · exact ih (by omega) s h
      · subst h; exact hw _ (List.getElem_mem _)
    · exact ih (by omega) s h
theorem flat_len (st : List (List UInt8)) (h : ∀ s ∈ st, s.length = 128) : st.flatten.length = 128 * st.length := by
  induction st with
  | nil => rfl
  | cons a st ih =>
    rw [List.flatten_cons, List.length_append, ih (fun s hs => h s (List.mem_cons_of_mem _ hs)), h a (List.mem_cons_self), List.length_cons]; omega
theorem cut_flat (st : List (List UInt8)) (h : ∀ s ∈ st, s.length = 128) (k : Nat) (hk : k < st.length) : cutS st.flatten k = st[k] := by
  unfold cutS
  induction st generalizing k with
  | nil => simp at hk
  | cons a st ih =>
    have ha := h a (List.mem_cons_self)
    rw [List.flatten_cons]
    cases k with
    | zero =>
      rw [Nat.mul_zero, List.drop_zero, List.take_append_of_le_length (by omega), List.take_of_length_le (by omega)]; rfl
    | succ k =>
      have e : 128 * (k + 1) = a.length + 128 * k := by omega
      rw [e, List.drop_append, List.drop_of_length_le (by omega), List.nil_append]
      have e2 : a.length + 128 * k - a.length = 128 * k := by omega
      rw [e2, ih (fun s hs => h s (List.mem_cons_of_mem _ hs)) k (by simpa using hk)]
      rfl
/-- is a sector as it stood, or as one of the first writes? -/
def fineB (f0 : Bool) (l : List DAct) (k : Nat) (s : List UInt8) : Nat → Bool
  | 0 => f0
  | i + 1 => fineB f0 l k s i || (decide ((l.getD i default).i = k) && decide (s = sectorL (l.getD i default).s))
theorem fineB_true (l : List DAct) (k : Nat) (s : List UInt8) (n : Nat) : fineB true l k s n = true := by
  induction n with
  | zero => rfl
  | succ n ih => unfold fineB; rw [ih]; rfl
theorem fineB_of (f0 : Bool) (l : List DAct) (k : Nat) (s : List UInt8) (n j : Nat) (hj : j < n) (h1 : (l.getD j default).i = k) (h2 : s = sectorL (l.getD j default).s) : fineB f0 l k s n = true := by
  induction n with
  | zero => omega
  | succ n ih =>
    unfold fineB
    by_cases e : j = n
    · subst e; rw [decide_eq_true h1, decide_eq_true h2]; simp
    · rw [ih (by omega)]; rfl
/-- what was flushed stands, or is as a write that waited; if nothing is kept it stands. -/
theorem keeps_fine (D1 : DK) (l2 : List DAct) (n2 : Nat) (kp : List Bool) (h1 : D1.stand.length = 8) (h2 : ∀ s ∈ D1.stand, s.length = 128) (h3 : D1.waits.length = 0) (hF : PutFacts D1 l2 n2 (putN D1 l2 n2)) (k : Nat) (hk : k < 8) :
    (kp.length = 0 → cutS (powerD (putN D1 l2 n2) kp).stand.flatten k = cutS D1.stand.flatten k) ∧
    fineB ((bs (cutS (powerD (putN D1 l2 n2) kp).stand.flatten k)).toList == (bs (cutS D1.stand.flatten k)).toList) l2 k (cutS (powerD (putN D1 l2 n2) kp).stand.flatten k) n2 = true := by
  obtain ⟨f1, f2, f3, f4, f5, f6⟩ := hF
  have hw0 : D1.waits = [] := List.eq_nil_of_length_eq_zero h3
  have hall : ∀ s ∈ (powerD (putN D1 l2 n2) kp).stand, s.length = 128 := by
    refine sk_all (p := fun s => s.length = 128) _ _ _ ?_ ?_ _ (Nat.le_refl _)
    · rw [f1]; exact h2
    · intro x hx
      rcases f6 x hx with h | ⟨_, j, _, _, e⟩
      · rw [hw0] at h; cases h
      · rw [e, sectorL_len]
  have hlen : (powerD (putN D1 l2 n2) kp).stand.length = 8 := by
    show (sk _ _ _ _).length = 8
    rw [sk_len, f1, h1]
  rw [cut_flat _ hall k (by omega), cut_flat _ h2 k (by omega)]
  have hs := sk_each (putN D1 l2 n2).stand (putN D1 l2 n2).waits (kept kp) (putN D1 l2 n2).waits.length k (by rw [f1]; omega) (Nat.le_refl _)
  have e1 : (sk (putN D1 l2 n2).stand (putN D1 l2 n2).waits (kept kp) (putN D1 l2 n2).waits.length)[k]? = some ((powerD (putN D1 l2 n2) kp).stand[k]'(by omega)) := List.getElem?_eq_getElem _
  have e2 : (putN D1 l2 n2).stand[k]? = some (D1.stand[k]'(by omega)) := by rw [f1]; exact List.getElem?_eq_getElem _
  rw [e1, e2] at hs
  generalize (powerD (putN D1 l2 n2) kp).stand[k]'(by omega) = s at *
  rcases hs with hs | ⟨x, hx, ⟨j, hj⟩, hx1, hx2⟩
  · injection hs with hs
    subst hs
    refine ⟨fun _ => rfl, ?_⟩
    rw [show ((bs (D1.stand[k]'(by omega))).toList == (bs (D1.stand[k]'(by omega))).toList) = true by simp]
    exact fineB_true _ _ _ _
  · refine ⟨fun h0 => ?_, ?_⟩
    · have : kp = [] := List.eq_nil_of_length_eq_zero h0
      subst this
      simp [kept] at hj
    · injection hx2 with hx2
      rcases f6 x hx with h | ⟨_, j, g1, g2, g3⟩
      · rw [hw0] at h; cases h
      · exact fineB_of _ _ _ _ _ j g1 (by rw [g2, hx1]) (by rw [hx2, g3])
theorem now_len (D1 : DK) (l2 : List DAct) (n2 : Nat) (kp : List Bool) (h1 : D1.stand.length = 8) (h2 : ∀ s ∈ D1.stand, s.length = 128) (h3 : D1.waits.length = 0) (hF : PutFacts D1 l2 n2 (putN D1 l2 n2)) :
    (∀ s ∈ (powerD (putN D1 l2 n2) kp).stand, s.length = 128) ∧ (powerD (putN D1 l2 n2) kp).stand.flatten.length = 1024 := by
  obtain ⟨f1, f2, f3, f4, f5, f6⟩ := hF
  have hw0 : D1.waits = [] := List.eq_nil_of_length_eq_zero h3
  have hall : ∀ s ∈ (powerD (putN D1 l2 n2) kp).stand, s.length = 128 := by
    refine sk_all (p := fun s => s.length = 128) _ _ _ ?_ ?_ _ (Nat.le_refl _)
    · rw [f1]; exact h2
    · intro x hx
      rcases f6 x hx with h | ⟨_, j, _, _, e⟩
      · rw [hw0] at h; cases h
      · rw [e, sectorL_len]
  have hlen : (powerD (putN D1 l2 n2) kp).stand.length = 8 := by
    show (sk _ _ _ _).length = 8
    rw [sk_len, f1, h1]
  refine ⟨hall, ?_⟩
  rw [flat_len _ hall, hlen]
end Go.Proofs.Ytkhbobjfmedimaa
