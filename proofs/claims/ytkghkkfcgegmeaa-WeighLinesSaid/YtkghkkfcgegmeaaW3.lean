/- For every text and every two places: a text whose bytes change places four apart weighs the same: the walk of WeighPlaces. No condition. -/
import Derived.Test.YtkghkkfcgegmeaaW2
import Derived.Lib.ConvBytes
import Derived.Lib.SlBytesRow
namespace Go.Proofs.Ytkghkkfcgegmeaa
open Go.RowKit Fl
set_option linter.unusedVariables false
set_option linter.unusedSimpArgs false

def cutS (s : ByteArray) : ByteArray := if 2000 < s.size then s.extract 0 2000 else s
theorem cutS_size (s : ByteArray) : (cutS s).size ≤ 2000 := by
  unfold cutS; split
  · simp; omega
  · omega

/-! ### the plain law: bytes that change places four apart -/
theorem wgt_set (k : Nat) (l : List UInt8) (i : Nat) (c : UInt8) (h : i < l.length) :
    wgt k (l.set i c) = ((wgt k l).1 + ((c.toNat : Int) - (l[i].toNat : Int)) * (unit (k + i)).1, (wgt k l).2 + ((c.toNat : Int) - (l[i].toNat : Int)) * (unit (k + i)).2) := by
  induction l generalizing k i with
  | nil => simp at h
  | cons d l ih =>
    cases i with
    | zero =>
      simp only [List.set_cons_zero, wgt, List.getElem_cons_zero, Nat.add_zero, Int.sub_mul]
      ext <;> simp <;> omega
    | succ i =>
      have h' : i < l.length := by simpa using h
      simp only [List.set_cons_succ, wgt, List.getElem_cons_succ, ih (k + 1) i h']
      rw [show k + 1 + i = k + (i + 1) from by omega]
      ext <;> simp <;> omega

theorem unit_mod {a b : Nat} (h : a % 4 = b % 4) : unit a = unit b := by simp only [unit, h]

def swapL (l : List UInt8) (a b : Nat) (ha : a < l.length) (hb : b < l.length) : List UInt8 := (l.set a l[b]).set b l[a]
theorem wgt_swap (l : List UInt8) (a b : Nat) (ha : a < l.length) (hb : b < l.length) (h : a % 4 = b % 4) : wgt 0 (swapL l a b ha hb) = wgt 0 l := by
  unfold swapL
  rw [wgt_set 0 _ b _ (by simpa using hb), wgt_set 0 _ a _ ha]
  have e : (l.set a l[b])[b]'(by simpa using hb) = l[b] := by
    rw [List.getElem_set]; split
    · rfl
    · rfl
  rw [e, Nat.zero_add, Nat.zero_add, unit_mod h]
  have e2 : ∀ x y u : Int, (x - y) * u + (y - x) * u = 0 := fun x y u => by rw [← Int.add_mul]; rw [show x - y + (y - x) = 0 from by omega, Int.zero_mul]
  have e3 := e2 (l[b].toNat : Int) (l[a].toNat : Int) (unit b).1
  have e4 := e2 (l[b].toNat : Int) (l[a].toNat : Int) (unit b).2
  ext <;> simp <;> omega

/-! ### a new row of bytes -/
theorem bytes_new (w : World) (e : TypeId) (s : ByteArray) : ∃ cap W, (∀ {P : Program} (src dst : TypeId) {u : TypeDesc}, P.underlying src = some u → P.underlying dst = some (.slice e) → P.underlying e = some (.int .u8) → (convert src dst (.string s)).run P w = .ok (.slice (some ⟨w.heap.size, 0, none⟩) s.size cap) W) ∧
    Lib.Bytes W w.heap.size 0 s ∧ (∀ j, j < s.size → W.frozen? ⟨w.heap.size, j, none⟩ = false) ∧ Below w.heap.size w W ∧ W.heap.size = w.heap.size + 1 := by
  refine ⟨_, Lib.bytesWorld w e s, fun src dst _ hs hd he => Lib.run_convert_string_bytes w src dst e s hs hd he, ?_, ?_, ?_, Lib.bytesWorld_size w e s⟩
  · intro j hj
    rw [Nat.zero_add, Lib.bytesWorld_cell w e s j hj]
    simp only [List.getD, show s.data.toList[j]? = some s[j] from Go.Proofs.byte_at s j hj, Option.getD_some]
  · intro j hj
    have hn := Lib.bytesWorld_at_new w e s
    have hlt : j < (Lib.bytesCells w e s).size := by simp [Lib.bytesCells]; omega
    simp only [World.frozen?, hn]
    simp; omega
  · refine ⟨rfl, rfl, rfl, ?_, fun k hk => Lib.bytesWorld_at_old w e s k hk⟩
    rw [Lib.bytesWorld_size]; omega

theorem bsize (l : List UInt8) : (⟨l.toArray⟩ : ByteArray).size = l.length := by show l.toArray.size = _; simp

theorem bytes_set {W : World} {B : Nat} {s : ByteArray} (h : Lib.Bytes W B 0 s) (a : Nat) (ha : a < s.size) (c : UInt8) :
    Lib.Bytes (W.setCell ⟨B, a, none⟩ (.int .u8 (c.toNat : Int))) B 0 ⟨(s.data.toList.set a c).toArray⟩ := by
  intro j hj
  have hj' : j < s.size := by rw [bsize, List.length_set] at hj; simpa using hj
  have hc := h j hj'
  rw [Nat.zero_add] at hc ⊢
  by_cases e : j = a
  · subst e
    rw [World.cell?_setCell_same _ _ _ hc]
    show some (Value.int .u8 (c.toNat : Int)) = some (.int .u8 (((s.data.toList.set j c).toArray[j]'(by simpa using hj')).toNat : Int))
    simp
  · rw [World.cell?_setCell_other _ _ _ _ (by simp [Ne.symm e]), hc]
    show some (Value.int .u8 ((s.data[j]).toNat : Int)) = some (.int .u8 (((s.data.toList.set a c).toArray[j]'(by simpa using hj')).toNat : Int))
    simp [List.getElem_set, Ne.symm e]

theorem size_le_maxLen {n : Nat} (h : n ≤ 100000000) : n ≤ maxLen := by unfold maxLen; omega

set_option maxRecDepth 100000 in
theorem places_yes (s t : ByteArray) (i k : Int) (w : World) (ht : cutS s = t) (h0 : 0 < t.size) (hi : 0 ≤ i) (hi2 : i ≤ 65535) (hk : 0 ≤ k) (hk2 : k ≤ 65535) :
    Calls Try.prog 3 #[.string s, .int .u16 i, .int .u16 k] w fun e w' => e = .returned (.bool true) ∧ Below w.heap.size w w' := by
  have hc := fun w => cut_any s w
  have hsz := cutS_size s
  rw [show (if 2000 < s.size then s.extract 0 2000 else s) = t from ht] at hc
  rw [ht] at hsz
  clear ht
  have hz : ((t.size : Int) == 0) = false := by rw [beq_eq_false_iff_ne]; omega
  have a1 : 0 ≤ i % (t.size : Int) := Int.emod_nonneg _ (by omega)
  have a2 : i % (t.size : Int) < t.size := Int.emod_lt_of_pos _ (by omega)
  obtain ⟨a, ha⟩ : ∃ a : Nat, i % (t.size : Int) = a := ⟨_, (Int.toNat_of_nonneg a1).symm⟩
  have q1 : 1 ≤ ((t.size : Int) - (a : Int) % 4 + 3) / 4 := by omega
  have r1 : 0 ≤ k % (((t.size : Int) - (a : Int) % 4 + 3) / 4) := Int.emod_nonneg _ (by omega)
  have r2 : k % (((t.size : Int) - (a : Int) % 4 + 3) / 4) < ((t.size : Int) - (a : Int) % 4 + 3) / 4 := Int.emod_lt_of_pos _ (by omega)
  obtain ⟨r, hr⟩ : ∃ r : Nat, k % (((t.size : Int) - (a : Int) % 4 + 3) / 4) = r := ⟨_, (Int.toNat_of_nonneg r1).symm⟩
  obtain ⟨b, hb⟩ : ∃ b : Nat, (a : Int) % 4 + 4 * (r : Int) = b := ⟨a % 4 + 4 * r, by omega⟩
  have ha' : a < t.size := by omega
  have hb' : b < t.size := by omega
  have hab : a % 4 = b % 4 := by omega
  have hal : a < t.data.toList.length := by simpa using ha'
  have hbl : b < t.data.toList.length := by simpa using hb'
  obtain ⟨cap, W0, hconv, hby, hfr, hbe, hsize⟩ := bytes_new w 5 t
  have hconv' : (convert 9 27 (.string t)).run Try.prog w = _ := hconv 9 27 Try.underlying9 Try.underlying27 Try.underlying5
  have f1 := hfr a ha'
  have f2 := hfr b hb'
  have c1 := hby a ha'
  have hs1 := bytes_set hby a ha' t[b]
  have c2 := hs1 b (by rw [bsize, List.length_set]; simpa using hb')
  have hs2 := bytes_set hs1 b (by rw [bsize, List.length_set]; simpa using hb') t[a]
  rw [Nat.zero_add] at c1 c2
  generalize (Value.int .u8 (((⟨(t.data.toList.set a t[b]).toArray⟩ : ByteArray)[b]'(by rw [bsize, List.length_set]; simpa using hb')).toNat : Int)) = v2 at c2
  have hback := Lib.run_convert_whole (P := Try.prog) _ 27 5 9 Try.underlying27 Try.underlying5 Try.underlying9 _ _ _ hs2 cap
  have e1 : ∀ u : ByteArray, u = ⟨(swapL t.data.toList a b hal hbl).toArray⟩ → u.size = t.size := fun u hu => by rw [hu, bsize]; simp [swapL]
  have e2 : (⟨(((⟨(t.data.toList.set a t[b]).toArray⟩ : ByteArray).data.toList.set b t[a])).toArray⟩ : ByteArray) = ⟨(swapL t.data.toList a b hal hbl).toArray⟩ := by rfl
  rw [e2] at hback hs2
  have hsw := wgt_swap t.data.toList a b hal hbl hab
  generalize hu : (⟨(swapL t.data.toList a b hal hbl).toArray⟩ : ByteArray) = u at *
  have hus := e1 u rfl
  rw [hus] at hback
  have ho1 := fun w => of_any t w (by omega)
  have ho2 := fun w => of_any u w (by omega)
  have hul : u.data.toList = swapL t.data.toList a b hal hbl := by rw [← hu]
  rw [hul, hsw] at ho2
  have heq : ∀ z : Int × Int, (z.1.natAbs ≤ 2 ^ 53 ∧ z.2.natAbs ≤ 2 ^ 53) → ((FloatKind.f64.format.order (F z.1) (F z.1) == some .eq) = true ∧ (FloatKind.f64.format.order (F z.2) (F z.2) == some .eq) = true) := fun z hz => by
    rw [eqF _ _ hz.1 hz.1, eqF _ _ hz.2 hz.2]; simp
  have hwb := wgt_bd 0 t.data.toList
  have hlen : t.data.toList.length = t.size := by simp
  obtain ⟨x1, x2⟩ := heq (wgt 0 t.data.toList) (by omega)
  clear hul hsw e1 e2 heq hwb hlen hu hus hs2 hs1 hby hfr hconv
  go_enter Try.func3, Try.ntmps3
  go_wp2_with (go_at_call 14; refine (hc _).mono ?_; rintro e w' ⟨rfl, rfl⟩)
  refine (ho2 _).mono ?_; rintro e w' ⟨rfl, rfl⟩
  go_wp2_with fail
  refine (ho1 _).mono ?_; rintro e w' ⟨rfl, rfl⟩
  go_wp2_with fail
  refine (awake_any _).mono ?_; rintro e w' ⟨rfl, rfl⟩
  go_wp2_with fail
  go_ret
  exact ⟨rfl, (hbe.setCell (Nat.le_refl _) _).setCell (Nat.le_refl _) _⟩

set_option maxRecDepth 100000 in
theorem places_no (s t : ByteArray) (i k : Int) (w : World) (ht : cutS s = t) (h0 : t.size = 0) :
    Calls Try.prog 3 #[.string s, .int .u16 i, .int .u16 k] w fun e w' => e = .returned (.bool true) ∧ Below w.heap.size w w' := by
  have hc := fun w => cut_any s w
  rw [show (if 2000 < s.size then s.extract 0 2000 else s) = t from ht] at hc
  clear ht
  have hz : ((t.size : Int) == 0) = true := by simp [h0]
  have ho1 := fun w => of_any t w (by omega)
  have hl : t.data.toList = [] := by
    apply List.eq_nil_of_length_eq_zero; simpa using h0
  rw [hl] at ho1
  simp only [wgt, F0] at ho1
  have e3 : (FloatKind.f64.format.order 0 0 == some .eq) = true := by decide +kernel
  clear h0 hl
  go_enter Try.func3, Try.ntmps3
  go_wp2_with (go_at_call 14; refine (hc _).mono ?_; rintro e w' ⟨rfl, rfl⟩)
  refine (ho1 _).mono ?_; rintro e w' ⟨rfl, rfl⟩
  go_wp2_with fail
  refine (awake_any _).mono ?_; rintro e w' ⟨rfl, rfl⟩
  go_wp2_with fail
  go_ret
  exact ⟨rfl, Below.refl _ _⟩

theorem places_walk (s : ByteArray) (i k : Int) (w : World) (_hs : s.size ≤ maxLen) (wi : (Lit.int .u16 i).wf = true) (wk : (Lit.int .u16 k).wf = true) :
    Calls Try.prog 3 #[.string s, .int .u16 i, .int .u16 k] w fun e w' => e = .returned (.bool true) ∧ Below w.heap.size w w' := by
  simp [Lit.wf, IntKind.min, IntKind.max, IntKind.signed, IntKind.bits] at wi wk
  by_cases h : (cutS s).size = 0
  · exact places_no s _ i k w rfl h
  · exact places_yes s _ i k w rfl (by omega) (by omega) (by omega) (by omega) (by omega)
end Go.Proofs.Ytkghkkfcgegmeaa
