/- For every text and every place: the weight of a text, cut in two: the walk of WeighTexts. No condition. -/
import Derived.Test.YtkghkkfcgegmeaaW4
import Derived.Deep.QuietTactic
import Derived.BigQuiet
namespace Go.Proofs.Ytkghkkfcgegmeaa
open Go.RowKit Fl
set_option linter.unusedVariables false
set_option linter.unusedSimpArgs false

theorem quiet_eq {P : Program} {f : FuncId} {args : Array Value} {w : World} {n : Nat} {v : Value}
    (h : Calls P f args (w.drewN n) fun e w' => e = .returned v ∧ w.drewN n = w') : Calls P f args (w.drewN n) fun e w'' => e = .returned v ∧ ∃ m, w'' = w.drewN m :=
  h.mono fun _ _ ⟨he, hm⟩ => ⟨he, n, hm.symm⟩
theorem below_drews {B : Nat} {a w : World} (h : Below B a w) (n : Nat) : Below B a (w.drewN n) := ⟨h.os, h.tape, h.output, h.size, h.block⟩

theorem wgt_append (k : Nat) (l m : List UInt8) : wgt k (l ++ m) = ((wgt k l).1 + (wgt (k + l.length) m).1, (wgt k l).2 + (wgt (k + l.length) m).2) := by
  induction l generalizing k with
  | nil => simp [wgt]
  | cons c l ih =>
    simp only [List.cons_append, wgt, ih, List.length_cons]
    rw [show k + 1 + l.length = k + (l.length + 1) from by omega]
    ext <;> simp <;> omega
theorem wgt_turn (k : Nat) (l : List UInt8) : wgt (k + 1) l = (-(wgt k l).2, (wgt k l).1) := by
  induction l generalizing k with
  | nil => simp [wgt]
  | cons c l ih =>
    simp only [wgt, ih, unit_succ]
    ext
    · simp [Int.mul_neg]; omega
    · simp
theorem wgt_rot (k : Nat) (l : List UInt8) : wgt k l = rot k (wgt 0 l) := by
  induction k with
  | zero => rfl
  | succ k ih => rw [wgt_turn, ih]; rfl
theorem rot_four (k : Nat) (z : Int × Int) : rot (k + 4) z = rot k z := by
  simp only [rot]; ext <;> simp
theorem rot_mod (k : Nat) (z : Int × Int) : rot (k % 4) z = rot k z := by
  have h : ∀ q r, rot (r + 4 * q) z = rot r z := by
    intro q
    induction q with
    | zero => intro r; rfl
    | succ q ih => intro r; rw [show r + 4 * (q + 1) = (r + 4 * q) + 4 from by omega, rot_four, ih]
  have := h (k / 4) (k % 4)
  rw [show k % 4 + 4 * (k / 4) = k from by omega] at this
  exact this.symm
theorem join_wgt (l m : List UInt8) : join (wgt 0 l) (l.length : Int) (wgt 0 m) = wgt 0 (l ++ m) := by
  rw [wgt_append, Nat.zero_add, wgt_rot l.length m, ← rot_mod]
  have : quarter (l.length : Int) = l.length % 4 := by unfold quarter; omega
  simp only [join, this]

theorem wgt_Bd (s : ByteArray) (hs : s.size ≤ 1000000) (k : Nat) : Bd (2 ^ 53) (wgt k s.data.toList) := by
  have h := wgt_bd k s.data.toList
  have hl : s.data.toList.length = s.size := by simp
  unfold Bd; omega
theorem take_data (s : ByteArray) (k : Nat) : (s.extract 0 k).data.toList = s.data.toList.take k := by simp
theorem drop_data (s : ByteArray) (k : Nat) : (s.extract k s.size).data.toList = s.data.toList.drop k := by
  rw [Lib.extract_data]; exact List.take_of_length_le (by simp)

set_option maxRecDepth 100000 in
theorem texts_at (s t : ByteArray) (at_ : Int) (k : Nat) (w : World) (ht : cutS s = t) (h0 : 0 ≤ at_) (h1 : at_ ≤ 65535) (hk : k ≤ t.size)
    (hmin : min at_ (t.size : Int) = (k : Int)) :
    Calls Try.prog 4 #[.string s, .int .u16 at_] w fun e w' => e = .returned (.bool true) ∧ Below w.heap.size w w' := by
  have hc := fun w => cut_any s w
  have hsz := cutS_size s
  rw [show (if 2000 < s.size then s.extract 0 2000 else s) = t from ht] at hc
  rw [ht] at hsz
  clear ht
  have hof := fun w => of_any t w (by omega)
  have hrf := fun w => refOf_any t w (by omega)
  have hbd := wgt_Bd t (by omega) 0
  have hnum := fun w => num_any (wgt 0 t.data.toList).1 (wgt 0 t.data.toList).2 w
  have hpl := fun w => lplain_F (wgt 0 t.data.toList).1 (wgt 0 t.data.toList).2 w hbd.1 hbd.2
  have hs1 : (t.extract 0 k).size ≤ 1000000 := by simp; omega
  have hs2 : (t.extract k t.size).size ≤ 1000000 := by simp; omega
  have b1 := wgt_Bd _ hs1 0
  have b2 := wgt_Bd _ hs2 0
  have hj : join (wgt 0 (t.extract 0 k).data.toList) (k : Int) (wgt 0 (t.extract k t.size).data.toList) = wgt 0 t.data.toList := by
    have hl : ((t.data.toList.take k).length : Int) = k := by simp; omega
    rw [take_data, drop_data, ← hl, join_wgt, List.take_append_drop]
  have hjoin := fun w => join_FW _ _ _ _ _ _ (k : Int) w (WalkArith.wf_i64 (by omega)) (CW_F b1) b1 (CW_F b2) b2 (by rw [hj]; exact hbd)
  rw [hj] at hjoin
  have x1 := eqF _ _ hbd.1 hbd.1
  have x2 := eqF _ _ hbd.2 hbd.2
  simp only [decide_true] at x1 x2
  have hany : ∀ (u : ByteArray), u.size ≤ 1000000 → ∀ w, Calls Try.prog 15 #[.string u] w fun e w' => e = .returned (.complex .f64 (F (wgt 0 u.data.toList).1) (F (wgt 0 u.data.toList).2)) ∧ w = w' := fun u hu w => of_any u w hu
  have hs1' := hany _ hs1
  have hs2' := hany _ hs2
  generalize (wgt 0 (t.extract 0 k).data.toList) = z1 at *
  generalize (wgt 0 (t.extract k t.size).data.toList) = z2 at *
  generalize (wgt 0 t.data.toList) = z at *
  have sl1 : ∀ w, (Instr.slice 9 (.string t) none (some (.int .i64 (k : Int))) none).run Try.prog w = .ok (.string (t.extract 0 k)) w := fun w => by
    rw [run_slice_string_to_if w 9 t .i64 k Try.underlying9, if_pos ⟨by omega, by omega⟩, Int.toNat_natCast]
  have sl2 : ∀ w, (Instr.slice 9 (.string t) (some (.int .i64 (k : Int))) none none).run Try.prog w = .ok (.string (t.extract k t.size)) w := fun w => by
    rw [run_slice_string_from_if w 9 t .i64 k Try.underlying9, if_pos ⟨by omega, by omega⟩, Int.toNat_natCast]
  clear hany hj hs1 hs2 b1 b2 hbd
  go_enter Try.func4, Try.ntmps4
  go_wp2_with fail
  refine (hc _).mono ?_; rintro e w' ⟨rfl, rfl⟩
  go_wp2_with fail
  refine (hof _).mono ?_; rintro e w' ⟨rfl, rfl⟩
  go_wp2_with fail
  refine (hrf _).mono ?_; rintro e w1 ⟨rfl, hb1⟩
  go_wp2_with fail
  refine (hnum _).mono ?_; rintro e w2 ⟨rfl, hb2⟩
  go_wp2_with fail
  refine (hpl _).mono ?_; rintro e w' ⟨rfl, rfl⟩
  go_wp2_with fail
  refine (awake_any _).mono ?_; rintro e w' ⟨rfl, rfl⟩
  go_wp2_with fail
  go_quiet ((first | (go_at_call 15; first | (with_reducible exact quiet_eq (hs1' _)) | (with_reducible exact quiet_eq (hs2' _))) | (go_at_call 20; exact quiet_eq (hjoin _))))
  go_wp2_with fail
  go_ret
  exact ⟨rfl, below_drews (hb1.trans (hb2.mono hb1.size)) _⟩

theorem texts_walk (s : ByteArray) (i : Int) (w : World) (_hs : s.size ≤ maxLen) (wi : (Lit.int .u16 i).wf = true) :
    Calls Try.prog 4 #[.string s, .int .u16 i] w fun e w' => e = .returned (.bool true) ∧ Below w.heap.size w w' := by
  simp [Lit.wf, IntKind.min, IntKind.max, IntKind.signed, IntKind.bits] at wi
  exact texts_at s _ i (min i ((cutS s).size : Int)).toNat w rfl (by omega) (by omega) (by omega) (by omega)
end Go.Proofs.Ytkghkkfcgegmeaa
