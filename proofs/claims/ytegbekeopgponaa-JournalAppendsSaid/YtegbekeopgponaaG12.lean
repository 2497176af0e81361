/- Layer 9 (disk): writes on a disk whose power never goes, and what is left of them: plain laws; a write wherever it goes. -/
import Derived.Test.YtegbekeopgponaaG10
import Derived.Test.YtegbekeopgponaaG11
import Derived.Laws.OwnMore
import Derived.Laws.AppendOwnNone
import Derived.Maps.AppendAt
namespace Go.Proofs.Ytegbekeopgponaa
open Go.RowKit Go.Maps
set_option linter.unusedVariables false
set_option linter.unusedSimpArgs false

theorem getD_of {α : Type} [Inhabited α] (l : List α) (k : Nat) (h : k < l.length) : l.getD k default = l[k] := by
  rw [List.getD_eq_getElem?_getD, List.getElem?_eq_getElem h]; rfl
theorem DiskAt.lo_ {w : World} {b sb mb lo : Nat} {d : DK} (h : DiskAt w b sb mb lo d) : b < lo ∧ lo ≤ w.heap.size ∧ d.stand.length ≤ 8192 := by
  obtain ⟨_, _, _, _, _, _, _, _, _, _, h5, h6, h7, h8, _⟩ := h
  exact ⟨h5, h6, h8⟩
theorem DiskAt.drew {w : World} {b sb mb lo : Nat} {d : DK} (h : DiskAt w b sb mb lo d) : DiskAt w.drew b sb mb lo d := h
theorem DKept.of_drew {b sb mb lo : Nat} {w w' : World} (h : DKept b sb mb lo w.drew w') : DKept b sb mb lo w w' := h
/-- a write on a disk whose power never goes. -/
def putD (d : DK) (i : Int) (s : List UInt8) : DK := if 0 ≤ i ∧ i < d.stand.length then ⟨d.stand, d.waits ++ [(i.toNat, s)], d.fuse, d.ops + 1, d.down⟩ else d
/-- the first k of them. -/
def putN (d : DK) (l : List DAct) : Nat → DK
  | 0 => d
  | k + 1 => putD (putN d l k) (l.getD k default).i (sectorL (l.getD k default).s)
structure PutFacts (d : DK) (l : List DAct) (k : Nat) (e : DK) : Prop where
  stand : e.stand = d.stand
  fuse : e.fuse = -1
  down : e.down = false
  ops : e.ops ≤ d.ops + k
  len : e.waits.length ≤ d.waits.length + k
  each : ∀ x ∈ e.waits, x ∈ d.waits ∨ (x.1 < d.stand.length ∧ ∃ j, j < k ∧ (l.getD j default).i = x.1 ∧ x.2 = sectorL (l.getD j default).s)
theorem putN_facts (d : DK) (l : List DAct) (hf : d.fuse = -1) (hd : d.down = false) (k : Nat) : PutFacts d l k (putN d l k) := by
  induction k with
  | zero => exact ⟨rfl, hf, hd, Nat.le_refl _, Nat.le_refl _, fun x hx => Or.inl hx⟩
  | succ k ih =>
    obtain ⟨h1, h2, h3, h4, h5, h6⟩ := ih
    show PutFacts d l (k + 1) (putD (putN d l k) (l.getD k default).i (sectorL (l.getD k default).s))
    unfold putD
    split
    · rename_i hh
      rw [h1] at hh
      refine ⟨h1, h2, h3, by show _ + 1 ≤ _; omega, by show (List.length (_ ++ _)) ≤ _; rw [List.length_append, List.length_singleton]; omega, fun x hx => ?_⟩
      have hx : x ∈ (putN d l k).waits ++ [((l.getD k default).i.toNat, sectorL (l.getD k default).s)] := hx
      rw [List.mem_append] at hx
      rcases hx with hx | hx
      · rcases h6 x hx with h | ⟨g1, j, g2, g3⟩
        · exact Or.inl h
        · exact Or.inr ⟨g1, j, by omega, g3⟩
      · have hx : x = ((l.getD k default).i.toNat, sectorL (l.getD k default).s) := by simpa using hx
        subst hx
        exact Or.inr ⟨by show (l.getD k default).i.toNat < _; omega, k, by omega, by show _ = (((l.getD k default).i.toNat : Nat) : Int); omega, rfl⟩
    · refine ⟨h1, h2, h3, by omega, by omega, fun x hx => ?_⟩
      rcases h6 x hx with h | ⟨g1, j, g2, g3⟩
      · exact Or.inl h
      · exact Or.inr ⟨g1, j, by omega, g3⟩
theorem dPut (b sb mb lo : Nat) (d : DK) (i : Int) (s : List UInt8) (w : World) (h : DiskAt w b sb mb lo d) (hd : d.down = false) (hf : d.fuse = -1) (hs : s.length = 128) (ho : d.ops < 100000) (hwl : d.waits.length ≤ 10000) :
    Calls Try.prog 56 #[.pointer (some ⟨b, 0, none⟩), .int .i64 i, .string (bs s)] w fun e w' => (∃ x : Int, e = .returned (.int .i64 x)) ∧ DiskAt w' b sb mb lo (putD d i s) ∧ DKept b sb mb lo w w' := by
  by_cases hi : 0 ≤ i ∧ i < d.stand.length
  · obtain ⟨n, rfl⟩ := Int.eq_ofNat_of_zero_le hi.1
    refine (dWrite b sb mb lo d n s w h hd (by omega) hs ho hwl).mono fun e w' ⟨h1, h2, h3⟩ => ⟨⟨_, h1⟩, ?_, h3⟩
    have e1 : putD d (n : Int) s = writeD d n s := by
      unfold putD writeD opD
      rw [if_pos hi, hf, if_neg (by omega), if_neg (by omega)]
      rfl
    rw [e1]; exact h2
  · have hno : atOf d i ≠ 0 := by
      unfold atOf
      rw [hd, if_neg (by simp), if_pos (by omega)]
      omega
    refine (dWrite_no b sb mb lo d i (bs s) w h hno).mono fun e w' ⟨h1, h2⟩ => ⟨⟨_, h1⟩, ?_, ?_⟩
    · subst h2
      unfold putD
      rw [if_neg hi]
      exact h
    · subst h2; exact DKept.refl _ _ _ _ _
/-- what is left of a sector when some writes are settled: what stood, or one of those kept. -/
theorem sk_each (st : List (List UInt8)) (ws : List (Nat × List UInt8)) (keep : Nat → Bool) (n k : Nat) (hk : k < st.length) (hn : n ≤ ws.length) :
    (sk st ws keep n)[k]? = st[k]? ∨ ∃ x ∈ ws, (∃ j, keep j = true) ∧ x.1 = k ∧ (sk st ws keep n)[k]? = some x.2 := by
  induction n with
  | zero => exact Or.inl rfl
  | succ n ih =>
    rw [sk_succ st ws keep n (by omega)]
    split
    · rename_i hkeep
      by_cases e : ws[n].1 = k
      · refine Or.inr ⟨ws[n], List.getElem_mem _, ⟨n, hkeep⟩, e, ?_⟩
        rw [e, List.getElem?_set_self (by rw [sk_len]; exact hk)]
      · rw [List.getElem?_set_ne e]
        exact ih (by omega)
    · exact ih (by omega)
theorem sk_all {p : List UInt8 → Prop} (st : List (List UInt8)) (ws : List (Nat × List UInt8)) (keep : Nat → Bool) (hs : ∀ s ∈ st, p s) (hw : ∀ x ∈ ws, p x.2) (n : Nat) (hn : n ≤ ws.length) : ∀ s ∈ sk st ws keep n, p s := by
  induction n with
  | zero => exact hs
  | succ n ih =>
    rw [sk_succ st ws keep n (by omega)]
    intro s h
    split at h
    · rcases List.mem_or_eq_of_mem_set h with h | h
      · exact ih (by omega) s h
      · subst h; exact hw _ (List.getElem_mem _)
    · exact ih (by omega) s h
theorem flat_len (st : List (List UInt8)) (h : ∀ s ∈ st, s.length = 128) : st.flatten.length = 128 * st.length := by
  induction st with
  | nil => rfl
  | cons a st ih =>
    rw [List.flatten_cons, List.length_append, ih (fun s hs => h s (List.mem_cons_of_mem _ hs)), h a (List.mem_cons_self), List.length_cons]; omega
theorem cut_flat (st : List (List UInt8)) (h : ∀ s ∈ st, s.length = 128) (k : Nat) (hk : k < st.length) : cutS st.flatten k = st[k] := by
  unfold cutS
  induction st generalizing k with
  | nil => simp at hk
  | cons a st ih =>
    have ha := h a (List.mem_cons_self)
    rw [List.flatten_cons]
    cases k with
    | zero =>
      rw [Nat.mul_zero, List.drop_zero, List.take_append_of_le_length (by omega), List.take_of_length_le (by omega)]; rfl
    | succ k =>
      have e : 128 * (k + 1) = a.length + 128 * k := by omega
      rw [e, List.drop_append, List.drop_of_length_le (by omega), List.nil_append]
      have e2 : a.length + 128 * k - a.length = 128 * k := by omega
      rw [e2, ih (fun s hs => h s (List.mem_cons_of_mem _ hs)) k (by simpa using hk)]
      rfl
/-- is a sector as it stood, or as one of the first writes? -/
def fineB (f0 : Bool) (l : List DAct) (k : Nat) (s : List UInt8) : Nat → Bool
  | 0 => f0
  | i + 1 => fineB f0 l k s i || (decide ((l.getD i default).i = k) && decide (s = sectorL (l.getD i default).s))
theorem fineB_true (l : List DAct) (k : Nat) (s : List UInt8) (n : Nat) : fineB true l k s n = true := by
  induction n with
  | zero => rfl
  | succ n ih => unfold fineB; rw [ih]; rfl
theorem fineB_of (f0 : Bool) (l : List DAct) (k : Nat) (s : List UInt8) (n j : Nat) (hj : j < n) (h1 : (l.getD j default).i = k) (h2 : s = sectorL (l.getD j default).s) : fineB f0 l k s n = true := by
  induction n with
  | zero => omega
  | succ n ih =>
    unfold fineB
    by_cases e : j = n
    · subst e; rw [decide_eq_true h1, decide_eq_true h2]; simp
    · rw [ih (by omega)]; rfl
/-- what was flushed stands, or is as a write that waited; if nothing is kept it stands. -/
theorem keeps_fine (D1 : DK) (l2 : List DAct) (n2 : Nat) (kp : List Bool) (h1 : D1.stand.length = 8) (h2 : ∀ s ∈ D1.stand, s.length = 128) (h3 : D1.waits.length = 0) (hF : PutFacts D1 l2 n2 (putN D1 l2 n2)) (k : Nat) (hk : k < 8) :
    (kp.length = 0 → cutS (powerD (putN D1 l2 n2) kp).stand.flatten k = cutS D1.stand.flatten k) ∧
    fineB ((bs (cutS (powerD (putN D1 l2 n2) kp).stand.flatten k)).toList == (bs (cutS D1.stand.flatten k)).toList) l2 k (cutS (powerD (putN D1 l2 n2) kp).stand.flatten k) n2 = true := by
  obtain ⟨f1, f2, f3, f4, f5, f6⟩ := hF
  have hw0 : D1.waits = [] := List.eq_nil_of_length_eq_zero h3
  have hall : ∀ s ∈ (powerD (putN D1 l2 n2) kp).stand, s.length = 128 := by
    refine sk_all (p := fun s => s.length = 128) _ _ _ ?_ ?_ _ (Nat.le_refl _)
    · rw [f1]; exact h2
    · intro x hx
      rcases f6 x hx with h | ⟨_, j, _, _, e⟩
      · rw [hw0] at h; cases h
      · rw [e, sectorL_len]
  have hlen : (powerD (putN D1 l2 n2) kp).stand.length = 8 := by
    show (sk _ _ _ _).length = 8
    rw [sk_len, f1, h1]
  rw [cut_flat _ hall k (by omega), cut_flat _ h2 k (by omega)]
  have hs := sk_each (putN D1 l2 n2).stand (putN D1 l2 n2).waits (kept kp) (putN D1 l2 n2).waits.length k (by rw [f1]; omega) (Nat.le_refl _)
  have e1 : (sk (putN D1 l2 n2).stand (putN D1 l2 n2).waits (kept kp) (putN D1 l2 n2).waits.length)[k]? = some ((powerD (putN D1 l2 n2) kp).stand[k]'(by omega)) := List.getElem?_eq_getElem _
  have e2 : (putN D1 l2 n2).stand[k]? = some (D1.stand[k]'(by omega)) := by rw [f1]; exact List.getElem?_eq_getElem _
  rw [e1, e2] at hs
  generalize (powerD (putN D1 l2 n2) kp).stand[k]'(by omega) = s at *
  rcases hs with hs | ⟨x, hx, ⟨j, hj⟩, hx1, hx2⟩
  · injection hs with hs
    subst hs
    refine ⟨fun _ => rfl, ?_⟩
    rw [show ((bs (D1.stand[k]'(by omega))).toList == (bs (D1.stand[k]'(by omega))).toList) = true by simp]
    exact fineB_true _ _ _ _
  · refine ⟨fun h0 => ?_, ?_⟩
    · have : kp = [] := List.eq_nil_of_length_eq_zero h0
      subst this
      simp [kept] at hj
    · injection hx2 with hx2
      rcases f6 x hx with h | ⟨_, j, g1, g2, g3⟩
      · rw [hw0] at h; cases h
      · exact fineB_of _ _ _ _ _ j g1 (by rw [g2, hx1]) (by rw [hx2, g3])
theorem now_len (D1 : DK) (l2 : List DAct) (n2 : Nat) (kp : List Bool) (h1 : D1.stand.length = 8) (h2 : ∀ s ∈ D1.stand, s.length = 128) (h3 : D1.waits.length = 0) (hF : PutFacts D1 l2 n2 (putN D1 l2 n2)) :
    (∀ s ∈ (powerD (putN D1 l2 n2) kp).stand, s.length = 128) ∧ (powerD (putN D1 l2 n2) kp).stand.flatten.length = 1024 := by
  obtain ⟨f1, f2, f3, f4, f5, f6⟩ := hF
  have hw0 : D1.waits = [] := List.eq_nil_of_length_eq_zero h3
  have hall : ∀ s ∈ (powerD (putN D1 l2 n2) kp).stand, s.length = 128 := by
    refine sk_all (p := fun s => s.length = 128) _ _ _ ?_ ?_ _ (Nat.le_refl _)
    · rw [f1]; exact h2
    · intro x hx
      rcases f6 x hx with h | ⟨_, j, _, _, e⟩
      · rw [hw0] at h; cases h
      · rw [e, sectorL_len]
  have hlen : (powerD (putN D1 l2 n2) kp).stand.length = 8 := by
    show (sk _ _ _ _).length = 8
    rw [sk_len, f1, h1]
  refine ⟨hall, ?_⟩
  rw [flat_len _ hall, hlen]
end Go.Proofs.Ytegbekeopgponaa

/- A row of the call's own, appended to another of its own: whether the source is nil or not. -/
namespace Go.Proofs.Ytegbekeopgponaa
open Go.RowKit
set_option linter.unusedVariables false
set_option linter.unusedSimpArgs false

theorem grownBy_refl (w : World) (row : Option Nat) : w.grownBy w row := ⟨rfl, rfl, rfl, Nat.le_refl _, fun _ _ _ => rfl⟩
theorem wpList_append_rows {P : Program} {w : World} {ops : Array Oper} {rest : List Oper} {o : Oper} {a : Act} {Q : Exit → Act → World → Prop} (hgd : o.guard = none) (s x : Operand) (t : TypeId)
    (ho : o.op = .call { callee := .builtin .append, args := #[s, x], argTypes := #[t, t] })
    (base base2 : Nat) (e : TypeId) (i : TypeInfo) (z : Value) (size bytes : Nat) (ht : P.underlying t = some (.slice e)) (hi : P.info? e = some i) (hz : i.zero = some z)
    (hsize : i.size = size) (hby : i.bytes = bytes) (hzs : z.cells.size = size) (hsz : 0 < size)
    (v : Value) (n : Nat) (xs : List Value) (hs : a.eval s = v) (hown : w.ownsRow base e size v n xs)
    (u : Value) (m : Nat) (news : List Value) (hx : a.eval x = u) (hsrc : w.ownsRow base2 e size u m news) (h1 : ∀ u ∈ news, u.oneCell' = true)
    (h63 : n + m ≤ maxLen) (hbytes : (n + m) * bytes ≤ 140737488355328) (hbase : base ≤ w.heap.size)
    (h : ∀ v' w', w'.ownsRow base e size v' (n + m) (xs ++ news) → w.grownBy w' v.ownBlock → (v'.ownBlock = v.ownBlock ∨ v'.ownBlock = some w.heap.size) → wpList P ops Q rest (a.put o.dst v') w') :
    wpList P ops Q (o :: rest) a w := by
  have hsrc' := hsrc
  obtain ⟨hl, ⟨rfl, rfl⟩ | ⟨g, cap, cur, rfl, hb, hg, hnc, hcm, hcs, htake⟩⟩ := hsrc
  · have hn : news = [] := List.eq_nil_of_length_eq_zero (by rw [hl, Nat.zero_mul])
    refine wpList_append_own_none hgd s x t ho base e i size ht hi v n xs hs hown hx ?_
    exact h v w (by rw [hn, List.append_nil, Nat.add_zero]; exact hown) (grownBy_refl _ _) (Or.inl rfl)
  · refine wpList_append_own_at w hgd s x t ho base e i z size bytes ht hi hz hsize hby hzs hsz v n xs hs hown ⟨g, 0, none⟩ m cap news hx hl (fun j u hj => World.ownsRow.cells hsrc' (g := g) rfl j u hj) h1 h63 hbytes hbase ?_
    intro v' w' h2 h3 _ h5
    exact h v' w' h2 h3 h5
/-- a row stands wherever the blocks of its elements' type do. -/
theorem ownsRow_same {w w' : World} {base : Nat} {e : TypeId} {size : Nat} {v : Value} {n : Nat} {xs : List Value} (h : w.ownsRow base e size v n xs)
    (hk : ∀ g cs, base ≤ g → w.heap[g]? = some (.cells cs e (0, 0)) → w'.heap[g]? = w.heap[g]?) : w'.ownsRow base e size v n xs := by
  obtain ⟨h1, h2⟩ := h
  refine ⟨h1, ?_⟩
  rcases h2 with h2 | ⟨g, cap, cur, rfl, hg, hh, r⟩
  · exact Or.inl h2
  · exact Or.inr ⟨g, cap, cur, rfl, hg, (hk g cur hg hh).trans hh, r⟩
theorem ownsRow_keptT {S : List Nat} {w w' : World} {base : Nat} {e : TypeId} {size : Nat} {v : Value} {n : Nat} {xs : List Value} (h : w.ownsRow base e size v n xs) (k : Kept S w w')
    (hS : ∀ x ∈ S, base ≤ x → ∀ cs, w.heap[x]? ≠ some (.cells cs e (0, 0))) : w'.ownsRow base e size v n xs :=
  ownsRow_same h (fun g cs hb hg => k.block g (lt_of_block hg) (fun hx => hS g hx hb cs hg))
theorem ownsRow_keptO {r : Nat} {rs : Array Value} {t : TypeId} {w w' : World} {base : Nat} {e : TypeId} {size : Nat} {v : Value} {n : Nat} {xs : List Value} (h : w.ownsRow base e size v n xs) (k : Kept [r] w w') (o : Own w r rs t) (hne : e ≠ t) : w'.ownsRow base e size v n xs :=
  ownsRow_keptT h k (fun x hx _ cs hc => by
    have hx : x = r := by simpa using hx
    subst hx
    have o' : w.heap[x]? = some (.cells rs t (0, 0)) := o
    rw [o'] at hc
    injection hc with hc
    injection hc with _ ht
    exact hne ht.symm)
theorem ownsRow_empty (w : World) (base : Nat) (e : TypeId) (size : Nat) (hb : base ≤ w.heap.size) : (w.alloc (.cells #[] e)).ownsRow base e size (.slice (some ⟨w.heap.size, 0, none⟩) 0 0) 0 [] :=
  World.ownsRow_lit w #[] 0 hb (Nat.zero_le _) (by simp)
theorem ownsRow_base {w : World} {base base' : Nat} {e : TypeId} {size : Nat} {v : Value} {n : Nat} {xs : List Value} (h : w.ownsRow base e size v n xs) (hb : base' ≤ base) : w.ownsRow base' e size v n xs := by
  obtain ⟨h1, h2⟩ := h
  refine ⟨h1, ?_⟩
  rcases h2 with h2 | ⟨g, cap, cur, rfl, hg, r⟩
  · exact Or.inl h2
  · exact Or.inr ⟨g, cap, cur, rfl, Nat.le_trans hb hg, r⟩
theorem ownsRow_drew {w : World} {base : Nat} {e : TypeId} {size : Nat} {v : Value} {n : Nat} {xs : List Value} (h : w.ownsRow base e size v n xs) : w.drew.ownsRow base e size v n xs := h
/-- a row's cells, one by one. -/
theorem ownsRow_at {w : World} {base : Nat} {e : TypeId} {size : Nat} {v : Value} {n : Nat} {xs : List Value} (h : w.ownsRow base e size v n xs) (hn : 0 < n) :
    ∃ g c, v = .slice (some ⟨g, 0, none⟩) n c ∧ base ≤ g ∧ g < w.heap.size ∧ n ≤ c ∧ c ≤ maxLen ∧ ∀ j u, xs[j]? = some u → w.cell? ⟨g, j, none⟩ = some u := by
  have h' := h
  obtain ⟨hl, ⟨rfl, rfl⟩ | ⟨g, cap, cur, rfl, hb, hg, hnc, hcm, hcs, htake⟩⟩ := h
  · omega
  · refine ⟨g, cap, rfl, hb, lt_of_block hg, hnc, hcm, fun j u hj => ?_⟩
    have := World.ownsRow.cells h' (g := g) rfl j u hj
    rwa [Go.WideShapes.add_plain, Nat.zero_add] at this
end Go.Proofs.Ytegbekeopgponaa

/- Layer 9: what the document's disk is in memory. -/
namespace Go.Proofs.Ytegbekeopgponaa
open Go.RowKit Go.Maps
set_option linter.unusedVariables false
set_option linter.unusedSimpArgs false

def svals (l : List (List UInt8)) : List Value := l.map fun s => Value.string (bs s)
theorem svals_len (l : List (List UInt8)) : (svals l).length = l.length := by simp [svals]
theorem svals_get (l : List (List UInt8)) (i : Nat) (h : i < l.length) : (svals l)[i]? = some (.string (bs l[i])) := by simp [svals, h]
theorem svals_one (l : List (List UInt8)) : ∀ u ∈ svals l, u.oneCell' = true := by
  intro u hu; simp only [svals, List.mem_map] at hu; obtain ⟨s, _, rfl⟩ := hu; rfl
theorem wcells_len (l : List (Nat × List UInt8)) : (wcells l).length = l.length * 2 := by
  induction l with
  | nil => rfl
  | cons a l ih =>
    have e : wcells (a :: l) = Value.int .i64 (a.1 : Int) :: Value.string (bs a.2) :: wcells l := rfl
    rw [e, List.length_cons, List.length_cons, ih, List.length_cons]; omega
theorem wcells_one (l : List (Nat × List UInt8)) : ∀ u ∈ wcells l, u.oneCell' = true := by
  induction l with
  | nil => intro u hu; cases hu
  | cons a l ih =>
    have e : wcells (a :: l) = Value.int .i64 (a.1 : Int) :: Value.string (bs a.2) :: wcells l := rfl
    rw [e]; intro u hu
    simp only [List.mem_cons] at hu
    rcases hu with rfl | rfl | hu
    · rfl
    · rfl
    · exact ih u hu
/-- the document's disk stands at r; its rows from lo on. -/
def RAt (w : World) (r lo : Nat) (d : DK) : Prop :=
  ∃ sv wv, Own w r #[sv, wv, .int .i64 d.fuse, .int .i64 d.ops, .bool d.down] 65 ∧
    w.ownsRow lo 9 1 sv d.stand.length (svals d.stand) ∧ w.ownsRow lo 133 2 wv d.waits.length (wcells d.waits) ∧
    lo ≤ w.heap.size ∧ lo ≤ r ∧ 1 ≤ d.stand.length ∧ d.stand.length ≤ 8192 ∧ (Lit.int .i64 d.fuse).wf = true ∧ d.ops ≤ 100000 ∧ d.waits.length ≤ 20000
theorem Own.c5 {w : World} {b : Nat} {x0 x1 x2 x3 x4 : Value} {t : TypeId} (h : Own w b #[x0, x1, x2, x3, x4] t) : w.cell? ⟨b, 0, none⟩ = some x0 ∧ w.cell? ⟨b, 1, none⟩ = some x1 ∧ w.cell? ⟨b, 2, none⟩ = some x2 ∧ w.cell? ⟨b, 3, none⟩ = some x3 ∧ w.cell? ⟨b, 4, none⟩ = some x4 :=
  ⟨h.cell 0 (by simp), h.cell 1 (by simp), h.cell 2 (by simp), h.cell 3 (by simp), h.cell 4 (by simp)⟩
theorem Own.z5 {w : World} {b : Nat} {x0 x1 x2 x3 x4 : Value} {t : TypeId} (h : Own w b #[x0, x1, x2, x3, x4] t) : w.frozen? ⟨b, 0, none⟩ = false ∧ w.frozen? ⟨b, 1, none⟩ = false ∧ w.frozen? ⟨b, 2, none⟩ = false ∧ w.frozen? ⟨b, 3, none⟩ = false ∧ w.frozen? ⟨b, 4, none⟩ = false :=
  ⟨h.free 0, h.free 1, h.free 2, h.free 3, h.free 4⟩
theorem RAt.five {w : World} {r lo : Nat} {d : DK} (h : RAt w r lo d) : ∃ p c p' c', w.cell? ⟨r, 0, none⟩ = some (.slice p d.stand.length c) ∧ w.cell? ⟨r, 1, none⟩ = some (.slice p' d.waits.length c') ∧ w.cell? ⟨r, 2, none⟩ = some (.int .i64 d.fuse) ∧ w.cell? ⟨r, 3, none⟩ = some (.int .i64 d.ops) ∧ w.cell? ⟨r, 4, none⟩ = some (.bool d.down) ∧
    w.ownsRow lo 9 1 (.slice p d.stand.length c) d.stand.length (svals d.stand) ∧ w.ownsRow lo 133 2 (.slice p' d.waits.length c') d.waits.length (wcells d.waits) ∧ 1 ≤ d.stand.length ∧ d.stand.length ≤ 8192 ∧ d.ops ≤ 100000 ∧ d.waits.length ≤ 20000 ∧ lo ≤ w.heap.size := by
  obtain ⟨sv, wv, o, hs, hw, h1, h2, h3, h4, h5, h6, h7⟩ := h
  obtain ⟨p, c, rfl⟩ := own_shape hs
  obtain ⟨p', c', rfl⟩ := own_shape hw
  obtain ⟨c0, c1, c2, c3, c4⟩ := o.c5
  exact ⟨p, c, p', c', c0, c1, c2, c3, c4, hs, hw, h3, h4, h6, h7, h1⟩
theorem RAt.own {w : World} {r lo : Nat} {d : DK} (h : RAt w r lo d) : ∃ v0 v1, Own w r #[v0, v1, .int .i64 d.fuse, .int .i64 d.ops, .bool d.down] 65 := by
  obtain ⟨sv, wv, o, _⟩ := h; exact ⟨sv, wv, o⟩
theorem RAt.drew {w : World} {r lo : Nat} {d : DK} (h : RAt w r lo d) : RAt w.drew r lo d := h
theorem DiskAt.own {w : World} {b sb mb lo : Nat} {d : DK} (h : DiskAt w b sb mb lo d) : ∃ cs, Own w b cs 108 := by obtain ⟨wv, n, o, _⟩ := h; exact ⟨_, o⟩
/-- behind calls of a disk the document's stands as it did. -/
theorem RAt.dkept {w w' : World} {r lo b sb mb dlo : Nat} {d e : DK} (h : RAt w r lo d) (hD : DiskAt w b sb mb dlo e) (k : DKept b sb mb dlo w w') (hs : sb < lo) : RAt w' r lo d := by
  obtain ⟨sv, wv, o, hsr, hwr, h1, h2, r3⟩ := h
  obtain ⟨a1, a2, a3, a4, a5⟩ := k
  obtain ⟨wv2, n, ob, os, hw, hm, hn, g2, g3, g4, g5, g6, g7⟩ := hD
  have obs := ob
  unfold Own at obs
  have key : ∀ g cs t, lo ≤ g → t ≠ 108 → t ≠ 130 → w.heap[g]? = some (.cells cs t (0, 0)) → w'.heap[g]? = w.heap[g]? := by
    intro g cs t hg ht1 ht2 hc
    refine a5 g (lt_of_block hc) ?_ (by omega) ?_ (Or.inr ?_)
    · intro e; subst e
      rw [obs] at hc
      injection hc with hc
      injection hc with _ ht
      exact ht1 ht.symm
    · intro e; subst e
      obtain ⟨D, ⟨es, clock, hh, _⟩, _⟩ := hm
      rw [hh] at hc
      cases hc
    · intro cs2 f hc2
      rw [hc] at hc2
      injection hc2 with hc2
      injection hc2 with _ ht
      exact ht2 ht
  have or' : Own w' r #[sv, wv, .int .i64 d.fuse, .int .i64 d.ops, .bool d.down] 65 := (key r _ _ h2 (by decide) (by decide) o).trans o
  exact ⟨sv, wv, or', ownsRow_same hsr (fun g cs hg hc => key g cs _ hg (by decide) (by decide) hc), ownsRow_same hwr (fun g cs hg hc => key g cs _ hg (by decide) (by decide) hc), Nat.le_trans h1 a4, h2, r3⟩
theorem RAt.kept {S : List Nat} {w w' : World} {r lo : Nat} {d : DK} (h : RAt w r lo d) (k : Kept S w w') (hS : ∀ x ∈ S, x < lo) : RAt w' r lo d := by
  obtain ⟨sv, wv, o, hsr, hwr, h1, h2, r3⟩ := h
  exact ⟨sv, wv, k.own o (fun hx => by have := hS r hx; omega), ownsRow_kept hsr k hS, ownsRow_kept hwr k hS, Nat.le_trans h1 k.size, h2, r3⟩
/-- behind calls of the document's disk the disk stands as it did. -/
theorem DiskAt.rkept {w w' : World} {r lo b sb mb dlo : Nat} {d e : DK} (hD : DiskAt w b sb mb dlo e) (h : RAt w r lo d) (k : Kept [r] w w') : DiskAt w' b sb mb dlo e := by
  obtain ⟨sv, wv, o, hsr, hwr, h1, h2, r3⟩ := h
  obtain ⟨wv2, n, ob, os, hw, hm, hn, g2, g3, g4, g5, g6, g7⟩ := hD
  have o' : w.heap[r]? = some (.cells _ 65 (0, 0)) := o
  have ne : ∀ g cs t, t ≠ 65 → w.heap[g]? = some (.cells cs t (0, 0)) → g ∉ [r] := by
    intro g cs t ht hc hx
    have hx : g = r := by simpa using hx
    subst hx
    rw [o'] at hc
    injection hc with hc
    injection hc with _ e
    exact ht e.symm
  refine ⟨wv2, n, k.own ob (ne b _ _ (by decide) ob), k.own os (ne sb _ _ (by decide) os), ownsRow_keptO hw k o (by decide), hm.kept k ?_, hn, g2, g3, g4, g5, Nat.le_trans g6 k.size, g7⟩
  intro hx
  have hx : mb = r := by simpa using hx
  subst hx
  obtain ⟨D, ⟨es, clock, hh, _⟩, _⟩ := hm
  rw [hh] at o'
  cases o'
end Go.Proofs.Ytegbekeopgponaa
