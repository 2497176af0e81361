/- -/
import Derived.Test.YtdkimcnlhmhpgaaGreatH05
import Derived.Test.YtdkimcnlhmhpgaaGreatH09
import Derived.Test.YtdkimcnlhmhpgaaGreatH14
import Derived.Deep.QuietTactic
import Derived.BigQuiet
import Derived.Deep.RegionWith
import Derived.BigRegion
import Derived.Deep.RegionHeld3
set_option linter.unusedVariables false
set_option linter.unusedSimpArgs false
namespace Go.Proofs.YtdkimcnlhmhpgaaGreat
open Go.RowKit
def jrunsL (l : List (Int × Int)) : List UInt8 := (l.map fun r => numL r.1.toNat 2 ++ numL r.2.toNat 2).flatten
theorem jrunsL_take (l : List (Int × Int)) (k : Nat) (h : k < l.length) : jrunsL (l.take (k + 1)) = jrunsL (l.take k) ++ (numL l[k].1.toNat 2 ++ numL l[k].2.toNat 2) := by
 unfold jrunsL; rw [List.take_succ_eq_append_getElem h, List.map_append, List.flatten_append]
 congr 1
theorem jrunsL_len (l : List (Int × Int)) : (jrunsL l).length = 4 * l.length := by
 induction l with
 | nil => rfl
 | cons a l ih => simp only [jrunsL, List.map_cons, List.flatten_cons, List.length_append, numL_len, List.length_cons] at *; omega
def qrunsL (l : List (Int × Int)) : List UInt8 := numL l.length 2 ++ jrunsL l
def recL (r : JRec) : List UInt8 := numL r.kind.toNat 1 ++ ((if kId r.kind then numL r.id.toNat 4 else []) ++ ((if kName r.kind then textL r.name else []) ++ (if kBlob r.kind then numL r.size.toNat 4 ++ qrunsL r.runs else [])))
theorem ju32_nat (n : Nat) (h : n < 4294967296) : IntKind.u32.wrap (n : Int) = n := by
 have : IntKind.u32.wrap (n : Int) = (n : Int) % 4294967296 := by simp [IntKind.wrap, IntKind.bits, IntKind.signed]
 rw [this]; omega
theorem ju16_nat (n : Nat) (h : n < 65536) : IntKind.u16.wrap (n : Int) = n := by
 have : IntKind.u16.wrap (n : Int) = (n : Int) % 65536 := by simp [IntKind.wrap, IntKind.bits, IntKind.signed]
 rw [this]; omega
def RunsFit (l : List (Int × Int)) : Prop := l.length ≤ 16 ∧ ∀ k (hk : k < l.length), 0 ≤ l[k].1 ∧ l[k].1 < 65536 ∧ 0 ≤ l[k].2 ∧ l[k].2 < 65536
structure RecOk (r : JRec) : Prop where
 k1 : 1 ≤ r.kind
 k6 : r.kind ≤ 6
 i0 : 0 ≤ r.id
 i1 : r.id ≤ 4294967294
 nm : r.name.length ≤ 48
 s0 : 0 ≤ r.size
 s1 : r.size ≤ 1048576
 rf : RunsFit r.runs
theorem plB_fit {l : List (Int × Int)} {n : Int} (h : plB l n = true) : 0 ≤ n ∧ n ≤ 1048576 ∧ RunsFit l := by
 unfold plB at h
 simp only [Bool.and_eq_true, decide_eq_true_eq] at h
 obtain ⟨h1, h2, h3, h4, _⟩ := h
 refine ⟨h2, h3, h1, fun k hk => ?_⟩
 have := okRun_iff.1 (lieTo_ok (Nat.le_refl _) h4 k hk)
 omega
theorem rec_ok {r : JRec} (h : mayR r = true) (hf : r.fits) : RecOk r := by
 unfold mayR mayG at h
 simp only [Bool.and_eq_true, decide_eq_true_eq] at h
 obtain ⟨h1, h2, h3, h4, h5, h6, h7⟩ := h
 obtain ⟨p1, p2, p3⟩ := plB_fit h7
 obtain ⟨i0, _⟩ := bd32 hf.2.1
 have hk : 1 ≤ r.kind ∧ r.kind ≤ 6 := by
  unfold kId kName at h1
  simp only [Bool.or_eq_true, beq_iff_eq] at h1
  omega
 exact ⟨hk.1, hk.2, i0, h3, h5, p1, p2, p3⟩
end Go.Proofs.YtdkimcnlhmhpgaaGreat
