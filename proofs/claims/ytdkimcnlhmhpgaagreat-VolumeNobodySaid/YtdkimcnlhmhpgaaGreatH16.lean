/- -/
import Derived.Test.YtdkimcnlhmhpgaaGreatH01
import Derived.Test.YtdkimcnlhmhpgaaGreatH14
import Derived.Lib.Bytealg
set_option linter.unusedVariables false
set_option linter.unusedSimpArgs false
namespace Go.Proofs.YtdkimcnlhmhpgaaGreat
open Go.RowKit
structure JItem where
 id : Int
 name : List UInt8
 size : Int
 runs : List (Int × Int)
deriving Inhabited, DecidableEq
def JItem.fits (a : JItem) : Prop := (Lit.int .u32 a.id).wf = true ∧ a.name.length ≤ maxLen ∧ (Lit.int .i64 a.size).wf = true
def JItem.told (k : Int) (a : JItem) : JRec := ⟨k, a.id, a.name, a.size, a.runs⟩
def JItem.cells (a : JItem) (v : Value) : Array Value := #[.int .u32 a.id, .string (bs a.name), .int .i64 a.size, v]
def JRec.item (r : JRec) : JItem := ⟨r.id, r.name, r.size, r.runs⟩
theorem JItem.told_fits {k : Int} {a : JItem} (h : a.fits) (hk : (Lit.int .i64 k).wf = true) : (a.told k).fits := ⟨hk, h.1, h.2.1, h.2.2⟩
theorem JRec.item_fits {r : JRec} (h : r.fits) : r.item.fits := ⟨h.2.1, h.2.2.1, h.2.2.2⟩
structure JCat where
 nextBox : Int
 nextMan : Int
 boxes : List JItem
 mans : List JItem
 names : List JItem
deriving Inhabited, DecidableEq
def ltN (a b : List UInt8) : Bool := Op.bytesLess a b
theorem ltN_nil (a : List UInt8) : ltN a [] = false := by unfold ltN; cases a <;> rfl
theorem ltN_cons (a b : UInt8) (x y : List UInt8) : ltN (a :: x) (b :: y) = (decide (a < b) || (a == b && ltN x y)) := rfl
theorem ltN_irr : ∀ a : List UInt8, ltN a a = false
 | [] => rfl
 | a :: x => by rw [ltN_cons, ltN_irr x]; simp [UInt8.lt_irrefl]
theorem ltN_trans : ∀ {a b c : List UInt8}, ltN a b = true → ltN b c = true → ltN a c = true
 | a, [], c, h, _ => by rw [ltN_nil] at h; cases h
 | a, _ :: _, [], _, h => by rw [ltN_nil] at h; cases h
 | [], _ :: _, _ :: _, _, _ => rfl
 | a :: x, b :: y, c :: z, h1, h2 => by
  rw [ltN_cons] at h1 h2 ⊢
  simp only [Bool.or_eq_true, Bool.and_eq_true, decide_eq_true_eq, beq_iff_eq] at h1 h2 ⊢
  rcases h1 with h1 | ⟨rfl, h1⟩
  ·rcases h2 with h2 | ⟨rfl, h2⟩
   ·exact Or.inl (UInt8.lt_trans h1 h2)
   ·exact Or.inl h1
  ·rcases h2 with h2 | ⟨rfl, h2⟩
   ·exact Or.inl h2
   ·exact Or.inr ⟨rfl, ltN_trans h1 h2⟩
theorem ltN_tri : ∀ a b : List UInt8, ltN a b = true ∨ a = b ∨ ltN b a = true
 | [], [] => Or.inr (Or.inl rfl)
 | [], _ :: _ => Or.inl rfl
 | _ :: _, [] => Or.inr (Or.inr rfl)
 | a :: x, b :: y => by
  rw [ltN_cons, ltN_cons]
  simp only [Bool.or_eq_true, Bool.and_eq_true, decide_eq_true_eq, beq_iff_eq, List.cons.injEq]
  by_cases h1 : a < b
  ·exact Or.inl (Or.inl h1)
  ·by_cases h2 : b < a
   ·exact Or.inr (Or.inr (Or.inl h2))
   ·have e : a = b := UInt8.le_antisymm (UInt8.not_lt.1 h2) (UInt8.not_lt.1 h1)
    subst e
    rcases ltN_tri x y with h | h | h
    ·exact Or.inl (Or.inr ⟨rfl, h⟩)
    ·exact Or.inr (Or.inl ⟨rfl, h⟩)
    ·exact Or.inr (Or.inr (Or.inr ⟨rfl, h⟩))
def cmpN (a b : List UInt8) : Int := if ltN a b then -1 else if a = b then 0 else 1
theorem cmpN_eq : ∀ a b : List UInt8, Lib.compareBytes a b = cmpN a b
 | [], [] => rfl
 | [], _ :: _ => rfl
 | _ :: _, [] => rfl
 | a :: x, b :: y => by
  have ih := cmpN_eq x y
  unfold Lib.compareBytes
  unfold cmpN at ih ⊢
  rw [ltN_cons]
  by_cases h1 : a < b
  ·rw [if_pos h1]; simp [h1]
  ·rw [if_neg h1]
   by_cases h2 : b < a
   ·rw [if_pos h2]
    have hne : ¬ a = b := fun e => by subst e; exact UInt8.lt_irrefl _ h2
    simp [h1, hne]
   ·have e : a = b := UInt8.le_antisymm (UInt8.not_lt.1 h2) (UInt8.not_lt.1 h1)
    subst e
    rw [if_neg h2, ih]
    simp [h1]
def ltI (a b : JItem) : Bool := decide (a.id < b.id) || (a.id == b.id && ltN a.name b.name)
def eqK (a b : JItem) : Bool := a.id == b.id && a.name == b.name
theorem eqK_iff {a b : JItem} : eqK a b = true ↔ a.id = b.id ∧ a.name = b.name := by unfold eqK; simp
theorem ltI_iff {a b : JItem} : ltI a b = true ↔ a.id < b.id ∨ (a.id = b.id ∧ ltN a.name b.name = true) := by unfold ltI; simp
theorem ltI_trans {a b c : JItem} (h1 : ltI a b = true) (h2 : ltI b c = true) : ltI a c = true := by
 rw [ltI_iff] at *
 rcases h1 with h1 | ⟨e1, h1⟩ <;> rcases h2 with h2 | ⟨e2, h2⟩
 ·left; omega
 ·left; omega
 ·left; omega
 ·right; exact ⟨by omega, ltN_trans h1 h2⟩
theorem ltI_tri (a b : JItem) : ltI a b = true ∨ eqK a b = true ∨ ltI b a = true := by
 rw [ltI_iff, ltI_iff, eqK_iff]
 rcases Int.lt_trichotomy a.id b.id with h | h | h
 ·exact Or.inl (Or.inl h)
 ·rcases ltN_tri a.name b.name with g | g | g
  ·exact Or.inl (Or.inr ⟨h, g⟩)
  ·exact Or.inr (Or.inl ⟨h, g⟩)
  ·exact Or.inr (Or.inr (Or.inr ⟨h.symm, g⟩))
 ·exact Or.inr (Or.inr (Or.inl h))
theorem ltI_eqK {a b : JItem} (h : eqK a b = true) : ltI a b = false := by
 rw [eqK_iff] at h
 unfold ltI; rw [h.1, h.2, ltN_irr]; simp
theorem ltI_congr_r {a b c : JItem} (h : eqK b c = true) : ltI a b = ltI a c := by rw [eqK_iff] at h; unfold ltI; rw [h.1, h.2]
theorem ltI_congr_l {a b c : JItem} (h : eqK a b = true) : ltI a c = ltI b c := by rw [eqK_iff] at h; unfold ltI; rw [h.1, h.2]
theorem eqK_congr_r {a b c : JItem} (h : eqK b c = true) : eqK a b = eqK a c := by rw [eqK_iff] at h; unfold eqK; rw [h.1, h.2]
def ordI (a b : JItem) : Int := if ltI a b then -1 else if eqK a b then 0 else 1
theorem ordI_lt {a b : JItem} : ordI a b < 0 ↔ ltI a b = true := by
 unfold ordI; split
 ·simp_all
 ·split <;> simp_all
theorem ordI_zero {a b : JItem} : ordI a b = 0 ↔ eqK a b = true := by
 unfold ordI; split
 ·rename_i h
  constructor
  ·intro h'; cases h'
  ·intro h'; rw [ltI_eqK h'] at h; cases h
 ·split <;> simp_all
def Rise (l : List JItem) : Prop := l.Pairwise (fun a b => ltI a b = true)
theorem rise_step {l : List JItem} (h : ∀ k (hk : k + 1 < l.length), ltI l[k] l[k + 1] = true) : Rise l := by
 unfold Rise
 rw [List.pairwise_iff_getElem]
 intro i j hi hj hij
 obtain ⟨m, rfl⟩ : ∃ m, j = i + 1 + m := ⟨j - i - 1, by omega⟩
 clear hij
 induction m with
 | zero => exact h i hj
 | succ m ih => exact ltI_trans (ih (by omega)) (h (i + 1 + m) hj)
theorem Rise.at_ {l : List JItem} (h : Rise l) {i j : Nat} (hj : j < l.length) (hij : i < j) : ltI (l[i]'(by omega)) l[j] = true := List.pairwise_iff_getElem.1 h i j (by omega) hj hij
def posI (l : List JItem) (x : JItem) : Nat := (l.takeWhile (fun y => ltI y x)).length
theorem posI_le (l : List JItem) (x : JItem) : posI l x ≤ l.length := by
 unfold posI
 have h := congrArg List.length (List.takeWhile_append_dropWhile (p := fun y => ltI y x) (l := l))
 rw [List.length_append] at h
 omega
theorem posI_cons (a : JItem) (l : List JItem) (x : JItem) : posI (a :: l) x = if ltI a x then posI l x + 1 else 0 := by
 unfold posI
 rw [List.takeWhile_cons]
 split <;> simp
theorem posI_lt : ∀ {l : List JItem} {x : JItem} {j : Nat} (hj : j < posI l x), ltI (l[j]'(Nat.lt_of_lt_of_le hj (posI_le l x))) x = true
 | [], _, j, hj => absurd hj (by unfold posI; simp)
 | a :: l, x, j, hj => by
  have e := posI_cons a l x
  cases h : ltI a x
  ·rw [h] at e; simp at e; omega
  ·rw [h] at e
   simp at e
   cases j with
   | zero => exact h
   | succ j => exact posI_lt (l := l) (by omega)
theorem posI_at : ∀ {l : List JItem} {x : JItem} (h : posI l x < l.length), ltI (l[posI l x]'h) x = false
 | [], _, h => absurd h (by simp)
 | a :: l, x, h => by
  have e := posI_cons a l x
  cases g : ltI a x
  ·rw [g] at e; simp at e
   simp only [e]
   exact g
  ·rw [g] at e
   simp at e
   simp only [e, List.getElem_cons_succ]
   exact posI_at (l := l) (by rw [e] at h; simpa using h)
theorem posI_eq {l : List JItem} {x : JItem} {k : Nat} (hk : k ≤ l.length) (h1 : ∀ j (hj : j < k), ltI (l[j]'(by omega)) x = true) (h2 : ∀ (h : k < l.length), ltI l[k] x = false) : posI l x = k := by
 rcases Nat.lt_trichotomy (posI l x) k with h | h | h
 ·have := posI_at (l := l) (x := x) (by omega)
  rw [h1 _ h] at this; cases this
 ·exact h
 ·have := posI_lt h
  have hl := posI_le l x
  rw [h2 (by omega)] at this; cases this
theorem Rise.ge {l : List JItem} (h : Rise l) {x : JItem} {j : Nat} (hj : j < l.length) (hp : posI l x ≤ j) : ltI l[j] x = false := by
 have h0 := posI_at (l := l) (x := x) (by omega)
 by_cases e : posI l x = j
 ·subst e; exact h0
 ·have h1 := h.at_ hj (show posI l x < j by omega)
  cases g : ltI l[j] x
  ·rfl
  ·rw [ltI_trans h1 g] at h0; cases h0
def idxK (l : List JItem) (x : JItem) : Nat := (l.takeWhile (fun y => !eqK y x)).length
theorem idxK_le (l : List JItem) (x : JItem) : idxK l x ≤ l.length := by
 unfold idxK
 have h := congrArg List.length (List.takeWhile_append_dropWhile (p := fun y => !eqK y x) (l := l))
 rw [List.length_append] at h
 omega
theorem idxK_cons (a : JItem) (l : List JItem) (x : JItem) : idxK (a :: l) x = if eqK a x then 0 else idxK l x + 1 := by
 unfold idxK
 rw [List.takeWhile_cons]
 cases h : eqK a x <;> simp
theorem idxK_before : ∀ {l : List JItem} {x : JItem} {j : Nat} (hj : j < idxK l x), eqK (l[j]'(Nat.lt_of_lt_of_le hj (idxK_le l x))) x = false
 | [], _, j, hj => absurd hj (by unfold idxK; simp)
 | a :: l, x, j, hj => by
  have e := idxK_cons a l x
  cases h : eqK a x
  ·rw [h] at e; simp at e
   cases j with
   | zero => exact h
   | succ j => exact idxK_before (l := l) (by omega)
  ·rw [h] at e; simp at e; omega
theorem idxK_at : ∀ {l : List JItem} {x : JItem} (h : idxK l x < l.length), eqK (l[idxK l x]'h) x = true
 | [], _, h => absurd h (by simp)
 | a :: l, x, h => by
  have e := idxK_cons a l x
  cases g : eqK a x
  ·rw [g] at e; simp at e
   simp only [e, List.getElem_cons_succ]
   exact idxK_at (l := l) (by rw [e] at h; simpa using h)
  ·rw [g] at e; simp at e
   simp only [e]; exact g
def hasK (l : List JItem) (x : JItem) : Prop := idxK l x < l.length
theorem hasK_iff {l : List JItem} {x : JItem} : hasK l x ↔ ∃ y ∈ l, eqK y x = true := by
 constructor
 ·intro h; exact ⟨_, List.getElem_mem h, idxK_at h⟩
 ·rintro ⟨y, hy, he⟩
  obtain ⟨j, hj, rfl⟩ := List.mem_iff_getElem.1 hy
  unfold hasK
  by_cases h : j < idxK l x
  ·rw [idxK_before h] at he; cases he
  ·omega
theorem posI_idx {l : List JItem} {x : JItem} (hr : Rise l) (h : hasK l x) : posI l x = idxK l x :=
 posI_eq (idxK_le l x) (fun j hj => by rw [← ltI_congr_r (idxK_at h)]; exact hr.at_ h hj) (fun h' => ltI_eqK (idxK_at h'))
theorem posI_has {l : List JItem} {x : JItem} (hr : Rise l) (h : posI l x < l.length) : (eqK l[posI l x] x = true ↔ hasK l x) := by
 constructor
 ·intro he; exact hasK_iff.2 ⟨_, List.getElem_mem h, he⟩
 ·intro hk
  have e := posI_idx hr hk
  have := idxK_at hk
  simp only [e]; exact this
theorem posI_end {l : List JItem} {x : JItem} (hr : Rise l) (h : l.length ≤ posI l x) : ¬ hasK l x := fun hk => by
 have e := posI_idx hr hk
 unfold hasK at hk
 omega
def insI (l : List JItem) (x : JItem) : List JItem := l.take (posI l x) ++ x :: l.drop (posI l x)
def delI (l : List JItem) (i : Nat) : List JItem := l.take i ++ l.drop (i + 1)
def setI (l : List JItem) (i : Nat) (x : JItem) : List JItem := l.take i ++ x :: l.drop (i + 1)
theorem insI_len (l : List JItem) (x : JItem) : (insI l x).length = l.length + 1 := by
 have := posI_le l x
 unfold insI; rw [List.length_append, List.length_cons, List.length_take, List.length_drop]; omega
theorem delI_len {l : List JItem} {i : Nat} (h : i < l.length) : (delI l i).length + 1 = l.length := by
 unfold delI; rw [List.length_append, List.length_take, List.length_drop]; omega
theorem setI_len {l : List JItem} {i : Nat} {x : JItem} (h : i < l.length) : (setI l i x).length = l.length := by
 unfold setI; rw [List.length_append, List.length_cons, List.length_take, List.length_drop]; omega
theorem mem_insI {l : List JItem} {x y : JItem} (h : y ∈ insI l x) : y = x ∨ y ∈ l := by
 unfold insI at h
 rcases List.mem_append.1 h with h | h
 ·exact Or.inr (List.mem_of_mem_take h)
 ·rcases List.mem_cons.1 h with h | h
  ·exact Or.inl h
  ·exact Or.inr (List.mem_of_mem_drop h)
theorem mem_delI {l : List JItem} {i : Nat} {y : JItem} (h : y ∈ delI l i) : y ∈ l := by
 unfold delI at h
 rcases List.mem_append.1 h with h | h
 ·exact List.mem_of_mem_take h
 ·exact List.mem_of_mem_drop h
theorem mem_setI {l : List JItem} {i : Nat} {x y : JItem} (h : y ∈ setI l i x) : y = x ∨ y ∈ l := by
 unfold setI at h
 rcases List.mem_append.1 h with h | h
 ·exact Or.inr (List.mem_of_mem_take h)
 ·rcases List.mem_cons.1 h with h | h
  ·exact Or.inl h
  ·exact Or.inr (List.mem_of_mem_drop h)
theorem rise_sub {l m : List JItem} (h : Rise l) (hs : m.Sublist l) : Rise m := List.Pairwise.sublist hs h
theorem rise_del {l : List JItem} (h : Rise l) (i : Nat) : Rise (delI l i) := by
 refine rise_sub h ?_
 unfold delI
 conv => rhs; rw [← List.take_append_drop i l]
 exact List.Sublist.append (List.Sublist.refl _) (by rw [← List.drop_drop]; exact List.drop_sublist 1 _)
theorem rise_put {a b : List JItem} {x : JItem} (ha : Rise a) (hb : Rise b) (hab : ∀ y ∈ a, ∀ z ∈ b, ltI y z = true) (hax : ∀ y ∈ a, ltI y x = true) (hxb : ∀ z ∈ b, ltI x z = true) : Rise (a ++ x :: b) := by
 refine List.pairwise_append.2 ⟨ha, List.pairwise_cons.2 ⟨hxb, hb⟩, fun y hy z hz => ?_⟩
 rcases List.mem_cons.1 hz with rfl | hz
 ·exact hax y hy
 ·exact hab y hy z hz
theorem rise_parts {l : List JItem} (h : Rise l) (i j : Nat) (hij : i ≤ j) : ∀ y ∈ l.take i, ∀ z ∈ l.drop j, ltI y z = true := by
 intro y hy z hz
 obtain ⟨a, ha, rfl⟩ := List.mem_iff_getElem.1 hy
 obtain ⟨b, hb, rfl⟩ := List.mem_iff_getElem.1 hz
 rw [List.length_take] at ha
 rw [List.length_drop] at hb
 rw [List.getElem_take, List.getElem_drop]
 exact h.at_ (by omega) (by omega)
theorem rise_ins {l : List JItem} {x : JItem} (h : Rise l) (hn : ¬ hasK l x) : Rise (insI l x) := by
 refine rise_put (rise_sub h (List.take_sublist _ _)) (rise_sub h (List.drop_sublist _ _)) (rise_parts h _ _ (Nat.le_refl _)) (fun y hy => ?_) (fun z hz => ?_)
 ·obtain ⟨a, ha, rfl⟩ := List.mem_iff_getElem.1 hy
  rw [List.length_take] at ha
  rw [List.getElem_take]
  exact posI_lt (by omega)
 ·obtain ⟨b, hb, rfl⟩ := List.mem_iff_getElem.1 hz
  rw [List.length_drop] at hb
  rw [List.getElem_drop]
  have h1 := h.ge (x := x) (j := posI l x + b) (by omega) (by omega)
  rcases ltI_tri (l[posI l x + b]'(by omega)) x with g | g | g
  ·rw [g] at h1; cases h1
  ·exact absurd (hasK_iff.2 ⟨_, List.getElem_mem (by omega), g⟩) hn
  ·exact g
theorem rise_set {l : List JItem} {x : JItem} {i : Nat} (h : Rise l) (hi : i < l.length) (he : eqK l[i] x = true) : Rise (setI l i x) := by
 refine rise_put (rise_sub h (List.take_sublist _ _)) (rise_sub h (List.drop_sublist _ _)) (rise_parts h _ _ (by omega)) (fun y hy => ?_) (fun z hz => ?_)
 ·obtain ⟨a, ha, rfl⟩ := List.mem_iff_getElem.1 hy
  rw [List.length_take] at ha
  rw [List.getElem_take, ← ltI_congr_r he]
  exact h.at_ hi (by omega)
 ·obtain ⟨b, hb, rfl⟩ := List.mem_iff_getElem.1 hz
  rw [List.length_drop] at hb
  rw [List.getElem_drop, ← ltI_congr_l he]
  exact h.at_ (by omega) (by omega)
def mayL (k : Int) (l : List JItem) (most : Nat) : Prop := l.length ≤ most ∧ (∀ a ∈ l, mayR (a.told k) = true) ∧ Rise l
def aboveX (next : Int) (l : List JItem) : Prop := 1 ≤ next ∧ ∀ a ∈ l, a.id < next
structure mayC (c : JCat) : Prop where
 boxes : mayL 1 c.boxes 2048
 nb : aboveX c.nextBox c.boxes
 mans : mayL 2 c.mans 2048
 nm : aboveX c.nextMan c.mans
 names : mayL 3 c.names 256
theorem may_runs {r : JRec} (h : mayR r = true) : r.runs.length ≤ 16 := by
 unfold mayR mayG plB at h
 simp only [Bool.and_eq_true, decide_eq_true_eq] at h
 exact h.2.2.2.2.2.2.1
theorem mayR_name {a : JItem} (h : mayR (a.told 3) = true) : a.id = 0 ∧ a.name ≠ [] := by
 unfold mayR mayG JItem.told at h
 simp [kId, kName, kBlob] at h
 exact ⟨h.1, h.2.2.1⟩
theorem above_last {next : Int} {l : List JItem} {k : Int} (hr : Rise l) : aboveX next l ↔ 1 ≤ next ∧ (l.length = 0 ∨ ∃ h : l.length - 1 < l.length, (l[l.length - 1]'h).id < next) := by
 constructor
 ·rintro ⟨h1, h2⟩
  refine ⟨h1, ?_⟩
  by_cases h0 : l.length = 0
  ·exact Or.inl h0
  ·exact Or.inr ⟨by omega, h2 _ (List.getElem_mem _)⟩
 ·rintro ⟨h1, h2⟩
  refine ⟨h1, fun a ha => ?_⟩
  obtain ⟨j, hj, rfl⟩ := List.mem_iff_getElem.1 ha
  rcases h2 with h0 | ⟨h, h2⟩
  ·omega
  ·by_cases e : j = l.length - 1
   ·subst e; exact h2
   ·have := hr.at_ h (show j < l.length - 1 by omega)
    rw [ltI_iff] at this
    omega
def catNo : JCat := ⟨0, 0, [], [], []⟩
def catE : JCat := ⟨1, 1, [], [], []⟩
open Classical in
noncomputable def comesX (l : List JItem) (x : JItem) (next : Int) (most : Nat) (turns : Bool) : List JItem × Int :=
 if hasK l x ∧ turns = true then (setI l (idxK l x) x, 0) else if hasK l x ∨ x.id < next then ([], 252) else if most ≤ l.length then ([], 240) else (insI l x, 0)
open Classical in
noncomputable def goesX (l : List JItem) (x : JItem) : List JItem × Int := if hasK l x then (delI l (idxK l x), 0) else ([], 6)
noncomputable def oneX (c : JCat) (r : JRec) : JCat × Int :=
 if r.kind = 1 then ({ c with boxes := (comesX c.boxes r.item c.nextBox 2048 false).1, nextBox := r.id + 1 }, (comesX c.boxes r.item c.nextBox 2048 false).2)
 else if r.kind = 2 then ({ c with mans := (comesX c.mans r.item c.nextMan 2048 true).1, nextMan := max c.nextMan (r.id + 1) }, (comesX c.mans r.item c.nextMan 2048 true).2)
 else if r.kind = 3 then ({ c with names := (comesX c.names r.item 0 256 false).1 }, (comesX c.names r.item 0 256 false).2)
 else if r.kind = 4 then ({ c with boxes := (goesX c.boxes r.item).1 }, (goesX c.boxes r.item).2)
 else if r.kind = 5 then ({ c with mans := (goesX c.mans r.item).1 }, (goesX c.mans r.item).2)
 else ({ c with names := (goesX c.names r.item).1 }, (goesX c.names r.item).2)
noncomputable def recsX (c : JCat) : List JRec → JCat × Int
 | [] => (c, 0)
 | r :: l => if mayR r = true then if (oneX c r).2 = 0 then recsX (oneX c r).1 l else (catNo, (oneX c r).2) else (catNo, 1)
open Classical in
noncomputable def applyX (c : JCat) (l : List JRec) : JCat × Int := if mayC c then recsX c l else (catNo, 110)
theorem mayL_ins {k : Int} {l : List JItem} {most : Nat} {x : JItem} (h : mayL k l most) (hx : mayR (x.told k) = true) (hn : ¬ hasK l x) (hl : l.length < most) : mayL k (insI l x) most :=
 ⟨by rw [insI_len]; omega, fun a ha => by rcases mem_insI ha with rfl | ha; exact hx; exact h.2.1 a ha, rise_ins h.2.2 hn⟩
theorem mayL_set {k : Int} {l : List JItem} {most : Nat} {x : JItem} (h : mayL k l most) (hx : mayR (x.told k) = true) (hh : hasK l x) : mayL k (setI l (idxK l x) x) most :=
 ⟨by rw [setI_len hh]; exact h.1, fun a ha => by rcases mem_setI ha with rfl | ha; exact hx; exact h.2.1 a ha, rise_set h.2.2 hh (idxK_at hh)⟩
theorem mayL_del {k : Int} {l : List JItem} {most : Nat} {i : Nat} (h : mayL k l most) (hi : i < l.length) : mayL k (delI l i) most :=
 ⟨by have := delI_len hi; have := h.1; omega, fun a ha => h.2.1 a (mem_delI ha), rise_del h.2.2 i⟩
theorem comes_may {k : Int} {l : List JItem} {most : Nat} {x : JItem} {next : Int} {turns : Bool} (h : mayL k l most) (hx : mayR (x.told k) = true) (h0 : (comesX l x next most turns).2 = 0) : mayL k (comesX l x next most turns).1 most ∧ ∀ a ∈ (comesX l x next most turns).1, a = x ∨ a ∈ l := by
 unfold comesX at h0 ⊢
 by_cases h1 : hasK l x ∧ turns = true
 ·rw [if_pos h1]; exact ⟨mayL_set h hx h1.1, fun a ha => mem_setI ha⟩
 ·rw [if_neg h1] at h0 ⊢
  by_cases h2 : hasK l x ∨ x.id < next
  ·rw [if_pos h2] at h0; cases h0
  ·rw [if_neg h2] at h0 ⊢
   by_cases h3 : most ≤ l.length
   ·rw [if_pos h3] at h0; cases h0
   ·rw [if_neg h3]
    exact ⟨mayL_ins h hx (fun hh => h2 (Or.inl hh)) (by omega), fun a ha => mem_insI ha⟩
theorem goes_may {k : Int} {l : List JItem} {most : Nat} {x : JItem} (h : mayL k l most) (h0 : (goesX l x).2 = 0) : mayL k (goesX l x).1 most ∧ ∀ a ∈ (goesX l x).1, a ∈ l := by
 unfold goesX at h0 ⊢
 by_cases h1 : hasK l x
 ·rw [if_pos h1]; exact ⟨mayL_del h h1, fun a ha => mem_delI ha⟩
 ·rw [if_neg h1] at h0; cases h0
theorem told_of {r : JRec} {k : Int} (h : r.kind = k) : r.item.told k = r := by subst h; rfl
theorem may_kind {r : JRec} (h : mayR r = true) : r.kind = 1 ∨ r.kind = 2 ∨ r.kind = 3 ∨ r.kind = 4 ∨ r.kind = 5 ∨ r.kind = 6 := by
 unfold mayR mayG kId kName at h
 simp only [Bool.and_eq_true, Bool.or_eq_true, beq_iff_eq] at h
 omega
theorem may_id {r : JRec} (h : mayR r = true) : r.id ≤ 4294967294 := by
 unfold mayR mayG at h
 simp only [Bool.and_eq_true, decide_eq_true_eq] at h
 exact h.2.2.1
theorem one_may {c : JCat} {r : JRec} (hc : mayC c) (hr : mayR r = true) (hid : 0 ≤ r.id) (h0 : (oneX c r).2 = 0) : mayC (oneX c r).1 := by
 obtain ⟨b, nb, m, nm, n⟩ := hc
 unfold oneX at h0 ⊢
 by_cases k1 : r.kind = 1
 ·rw [if_pos k1] at h0 ⊢
  have hh : (comesX c.boxes r.item c.nextBox 2048 false).2 = 0 := h0
  obtain ⟨g1, g2⟩ := comes_may b (by rw [told_of k1]; exact hr) hh
  refine ⟨g1, ⟨by show 1 ≤ r.id + 1; omega, fun a ha => ?_⟩, m, nm, n⟩
  rcases g2 a ha with rfl | ha
  ·show r.id < r.id + 1; omega
  ·have h1 := nb.2 a ha
   have h2 : ¬ r.id < c.nextBox := fun hlt => by
    unfold comesX at hh
    by_cases q1 : hasK c.boxes r.item ∧ false = true
    ·cases q1.2
    ·rw [if_neg q1, if_pos (show hasK c.boxes r.item ∨ r.item.id < c.nextBox from Or.inr hlt)] at hh; cases hh
   show a.id < r.id + 1
   omega
 ·rw [if_neg k1] at h0 ⊢
  by_cases k2 : r.kind = 2
  ·rw [if_pos k2] at h0 ⊢
   obtain ⟨g1, g2⟩ := comes_may m (by rw [told_of k2]; exact hr) h0
   refine ⟨b, nb, g1, ⟨by show 1 ≤ max c.nextMan (r.id + 1); omega, fun a ha => ?_⟩, n⟩
   rcases g2 a ha with rfl | ha
   ·show r.id < max c.nextMan (r.id + 1); omega
   ·have := nm.2 a ha
    show a.id < max c.nextMan (r.id + 1); omega
  ·rw [if_neg k2] at h0 ⊢
   by_cases k3 : r.kind = 3
   ·rw [if_pos k3] at h0 ⊢
    exact ⟨b, nb, m, nm, (comes_may n (by rw [told_of k3]; exact hr) h0).1⟩
   ·rw [if_neg k3] at h0 ⊢
    by_cases k4 : r.kind = 4
    ·rw [if_pos k4] at h0 ⊢
     obtain ⟨g1, g2⟩ := goes_may b h0
     exact ⟨g1, ⟨nb.1, fun a ha => nb.2 a (g2 a ha)⟩, m, nm, n⟩
    ·rw [if_neg k4] at h0 ⊢
     by_cases k5 : r.kind = 5
     ·rw [if_pos k5] at h0 ⊢
      obtain ⟨g1, g2⟩ := goes_may m h0
      exact ⟨b, nb, g1, ⟨nm.1, fun a ha => nm.2 a (g2 a ha)⟩, n⟩
     ·rw [if_neg k5] at h0 ⊢
      exact ⟨b, nb, m, nm, (goes_may n h0).1⟩
theorem recs_may {l : List JRec} : ∀ {c : JCat}, mayC c → (∀ r ∈ l, 0 ≤ r.id) → (recsX c l).2 = 0 → mayC (recsX c l).1 := by
 induction l with
 | nil => intro c h _ _; exact h
 | cons r l ih =>
  intro c h hid h0
  unfold recsX at h0 ⊢
  by_cases h1 : mayR r = true
  ·rw [if_pos h1] at h0 ⊢
   by_cases h2 : (oneX c r).2 = 0
   ·rw [if_pos h2] at h0 ⊢
    exact ih (one_may h h1 (hid r List.mem_cons_self) h2) (fun q hq => hid q (List.mem_cons_of_mem _ hq)) h0
   ·rw [if_neg h2] at h0; exact absurd h0 h2
  ·rw [if_neg h1] at h0; cases h0
def catR (c : JCat) : List JRec := c.boxes.map (·.told 1) ++ c.mans.map (·.told 2) ++ c.names.map (·.told 3)
def runsC (c : JCat) : List (Int × Int) := ((catR c).map (·.runs)).flatten
end Go.Proofs.YtdkimcnlhmhpgaaGreat
