/- Plain laws of layer 11 (super): what a sector says. -/
import Derived.Test.YtpdmnjcklpklnaaR9
import Derived.Test.YtpdmnjcklpklnaaR11
import Derived.Deep.RegionLaw
namespace Go.Proofs.Ytpdmnjcklpklnaa
open Go.RowKit
set_option linter.unusedVariables false
set_option linter.unusedSimpArgs false

/-- a row and a block of other elements are apart; what becomes of them. -/
theorem own_row_ne {w : World} {base : Nat} {e t : TypeId} {size n g : Nat} {v : Value} {xs : List Value} {cs : Array Value} (h : w.ownsRow base e size v n xs) (o : Own w g cs t) (hne : e ≠ t) : v.ownBlock ≠ some g := by
  rcases h.2 with ⟨rfl, _⟩ | ⟨g', cap, cur, rfl, _, hh, _⟩
  · simp [Value.ownBlock]
  · intro he
    have e1 : g' = g := by simpa [Value.ownBlock] using he
    subst e1
    have o' : w.heap[g']? = some (.cells cs t (0, 0)) := o
    rw [o'] at hh
    injection hh with hh
    injection hh with _ ht
    exact hne ht.symm
theorem own_grown {w w' : World} {base : Nat} {e t : TypeId} {size n g : Nat} {v : Value} {xs : List Value} {cs : Array Value} (h : w.ownsRow base e size v n xs) (hg : w.grownBy w' v.ownBlock) (o : Own w g cs t) (hne : e ≠ t) : Own w' g cs t :=
  Eq.trans (hg.block g o.lt (fun he => own_row_ne h o hne he.symm)) o
theorem ownsRow_other {w : World} {base : Nat} {e : TypeId} {size n : Nat} {v : Value} {xs : List Value} (h : w.ownsRow base e size v n xs) {p : Addr} (hp : v.ownBlock ≠ some p.block) (u : Value) : (w.setCell p u).ownsRow base e size v n xs := by
  obtain ⟨h1, h2⟩ := h
  refine ⟨h1, ?_⟩
  rcases h2 with h2 | ⟨g, cap, cur, rfl, hg, hh, r⟩
  · exact Or.inl h2
  · refine Or.inr ⟨g, cap, cur, rfl, hg, (Below.heap_setCell w p u g (fun e => hp (by simp [Value.ownBlock, e]))).trans hh, r⟩
/-- the number of so many bytes from a place on. -/
def le (l : List UInt8) (at_ n : Nat) : Nat := leL ((l.drop at_).take n)
/-- the first k runs of a sector. -/
def decRuns (l : List UInt8) : Nat → List (Int × Int)
  | 0 => []
  | k + 1 => decRuns l k ++ [(((le l (36 + 4 * k) 2 : Nat) : Int), ((le l (38 + 4 * k) 2 : Nat) : Int))]
theorem decRuns_len (l : List UInt8) (k : Nat) : (decRuns l k).length = k := by
  induction k with
  | zero => rfl
  | succ k ih => rw [decRuns, List.length_append, ih]; rfl
/-- what a sector says. -/
def dec (l : List UInt8) : SB := ⟨le l 8 8, (le l 16 4 : Nat), (le l 20 4 : Nat), (le l 24 4 : Nat), (le l 28 4 : Nat), decRuns l (le l 32 2)⟩
/-- is a sector a superblock's? -/
def isSB (l : List UInt8) : Prop := l.length = 128 ∧ le l 32 2 ≤ 16 ∧ (dec l).may ∧ (dec l).sector = l
theorem le_lt (l : List UInt8) (a n : Nat) : le l a n < 256 ^ n := by
  unfold le
  refine Nat.lt_of_lt_of_le (leL_lt _) (Nat.pow_le_pow_right (by decide) ?_)
  rw [List.length_take]; omega

theorem le_at (A B : List UInt8) (n k a : Nat) (h : n < 256 ^ k) (ha : A.length = a) : le (A ++ (numL n k ++ B)) a k = n := by
  subst ha
  unfold le
  rw [List.drop_left, List.take_left' (numL_len n k), leL_numL, Nat.mod_eq_of_lt h]
theorem runsL_append (l m : List (Int × Int)) : runsL (l ++ m) = runsL l ++ runsL m := by
  unfold runsL; rw [List.map_append, List.flatten_append]
theorem decRuns_at (A B : List UInt8) (hA : A.length = 36) (l : List (Int × Int)) (hok : ∀ k (hk : k < l.length), 0 ≤ l[k].1 ∧ l[k].1 < 65536 ∧ 0 ≤ l[k].2 ∧ l[k].2 < 65536) (k : Nat) (hk : k ≤ l.length) : decRuns (A ++ (runsL l ++ B)) k = l.take k := by
  induction k with
  | zero => rfl
  | succ k ih =>
    have hlt : k < l.length := by omega
    have e : runsL l = runsL (l.take k) ++ (numL l[k].1.toNat 2 ++ (numL l[k].2.toNat 2 ++ runsL (l.drop (k + 1)))) := by
      have e1 : l = l.take k ++ ([l[k]] ++ l.drop (k + 1)) := by simp
      rw [congrArg runsL e1, runsL_append, runsL_append]
      simp [runsL]
    have hl : (runsL (l.take k)).length = 4 * k := by rw [runsL_len, List.length_take]; omega
    obtain ⟨h1, h2, h3, h4⟩ := hok k hlt
    rw [decRuns, ih (by omega), List.take_succ_eq_append_getElem hlt]
    have p1 := le_at (A ++ runsL (l.take k)) (numL l[k].2.toNat 2 ++ runsL (l.drop (k + 1)) ++ B) l[k].1.toNat 2 (36 + 4 * k) (by omega) (by rw [List.length_append, hl, hA])
    have p2 := le_at (A ++ runsL (l.take k) ++ numL l[k].1.toNat 2) (runsL (l.drop (k + 1)) ++ B) l[k].2.toNat 2 (38 + 4 * k) (by omega) (by rw [List.length_append, List.length_append, hl, hA, numL_len]; omega)
    have f1 : A ++ (runsL l ++ B) = A ++ runsL (l.take k) ++ (numL l[k].1.toNat 2 ++ (numL l[k].2.toNat 2 ++ runsL (l.drop (k + 1)) ++ B)) := by rw [e]; simp only [List.append_assoc]
    have f2 : A ++ (runsL l ++ B) = A ++ runsL (l.take k) ++ numL l[k].1.toNat 2 ++ (numL l[k].2.toNat 2 ++ (runsL (l.drop (k + 1)) ++ B)) := by rw [e]; simp only [List.append_assoc]
    rw [← f1] at p1
    rw [← f2] at p2
    rw [p1, p2]
    congr 1
    have e1 : ((l[k].1.toNat : Nat) : Int) = l[k].1 := by omega
    have e2 : ((l[k].2.toNat : Nat) : Int) = l[k].2 := by omega
    rw [e1, e2]
theorem sector_parts (s : SB) : ∃ T, s.sector = magicL ++ (numL s.seq 8 ++ (numL s.sectors.toNat 4 ++ (numL s.journal.toNat 4 ++ (numL s.used.toNat 4 ++ (numL s.size.toNat 4 ++ (numL s.runs.length 2 ++ (numL 0 2 ++ (runsL s.runs ++ T)))))))) := by
  refine ⟨List.replicate (124 - (s.body.length : Int)).toNat 0 ++ numL (crc (fillL s.body 124)) 4, ?_⟩
  unfold SB.sector sealL
  have e : fillL s.body 124 = s.body ++ List.replicate (124 - (s.body.length : Int)).toNat 0 := rfl
  rw [e]
  generalize List.replicate (124 - (s.body.length : Int)).toNat (0 : UInt8) = Z
  generalize numL (crc (s.body ++ Z)) 4 = C
  unfold SB.body
  simp only [List.append_assoc]
theorem sector_32 (s : SB) (h : s.runs.length < 65536) : le s.sector 32 2 = s.runs.length := by
  obtain ⟨T, e⟩ := sector_parts s
  have := le_at (magicL ++ numL s.seq 8 ++ numL s.sectors.toNat 4 ++ numL s.journal.toNat 4 ++ numL s.used.toNat 4 ++ numL s.size.toNat 4) (numL 0 2 ++ (runsL s.runs ++ T)) s.runs.length 2 32 (by omega) (by simp [numL_len, magicL])
  rw [e]; simpa only [List.append_assoc] using this
/-- what is put is what is read. -/
theorem dec_sector (s : SB) (hm : s.may) (hq : s.seq < 18446744073709551616) : dec s.sector = s := by
  obtain ⟨⟨g1, g2, g3, g4, g5, g6, g7, g8, g9, g10⟩, hL, _⟩ := hm
  have hLO := lieTo_ok (Nat.le_refl _) hL
  have h32 := sector_32 s (by omega)
  obtain ⟨T, e⟩ := sector_parts s
  have p1 := le_at magicL (numL s.sectors.toNat 4 ++ (numL s.journal.toNat 4 ++ (numL s.used.toNat 4 ++ (numL s.size.toNat 4 ++ (numL s.runs.length 2 ++ (numL 0 2 ++ (runsL s.runs ++ T))))))) s.seq 8 8 (by omega) rfl
  have p2 := le_at (magicL ++ numL s.seq 8) (numL s.journal.toNat 4 ++ (numL s.used.toNat 4 ++ (numL s.size.toNat 4 ++ (numL s.runs.length 2 ++ (numL 0 2 ++ (runsL s.runs ++ T)))))) s.sectors.toNat 4 16 (by omega) (by simp [numL_len, magicL])
  have p3 := le_at (magicL ++ numL s.seq 8 ++ numL s.sectors.toNat 4) (numL s.used.toNat 4 ++ (numL s.size.toNat 4 ++ (numL s.runs.length 2 ++ (numL 0 2 ++ (runsL s.runs ++ T))))) s.journal.toNat 4 20 (by omega) (by simp [numL_len, magicL])
  have p4 := le_at (magicL ++ numL s.seq 8 ++ numL s.sectors.toNat 4 ++ numL s.journal.toNat 4) (numL s.size.toNat 4 ++ (numL s.runs.length 2 ++ (numL 0 2 ++ (runsL s.runs ++ T)))) s.used.toNat 4 24 (by omega) (by simp [numL_len, magicL])
  have p5 := le_at (magicL ++ numL s.seq 8 ++ numL s.sectors.toNat 4 ++ numL s.journal.toNat 4 ++ numL s.used.toNat 4) (numL s.runs.length 2 ++ (numL 0 2 ++ (runsL s.runs ++ T))) s.size.toNat 4 28 (by omega) (by simp [numL_len, magicL])
  have p6 := decRuns_at (magicL ++ numL s.seq 8 ++ numL s.sectors.toNat 4 ++ numL s.journal.toNat 4 ++ numL s.used.toNat 4 ++ numL s.size.toNat 4 ++ numL s.runs.length 2 ++ numL 0 2) T (by simp [numL_len, magicL]) s.runs (fun k hk => by have := okRun_iff.1 (hLO k hk); omega) s.runs.length (Nat.le_refl _)
  simp only [List.append_assoc] at p1 p2 p3 p4 p5 p6
  rw [← e] at p1 p2 p3 p4 p5 p6
  rw [List.take_length] at p6
  unfold dec
  rw [h32, p1, p2, p3, p4, p5, p6]
  obtain ⟨sq, a, b, u, z, l⟩ := s
  simp only at *
  rw [Int.toNat_of_nonneg (by omega), Int.toNat_of_nonneg (by omega), Int.toNat_of_nonneg (by omega), Int.toNat_of_nonneg (by omega)]
theorem isSB_sector (s : SB) (hm : s.may) (hq : s.seq < 18446744073709551616) : isSB s.sector := by
  have h16 : s.runs.length ≤ 16 := hm.1.2.2.2.2.2.2.2.2.2
  refine ⟨sector_len s h16, ?_, ?_, ?_⟩
  · rw [sector_32 s (by omega)]; exact h16
  · rw [dec_sector s hm hq]; exact hm
  · rw [dec_sector s hm hq]
end Go.Proofs.Ytpdmnjcklpklnaa
