/- Walks of layer 4 (weigh): numbers as digits. -/
import Derived.Test.YtkghkkfcgegmeaaL3
namespace Go.Proofs.Ytkghkkfcgegmeaa
open Go.RowKit
set_option linter.unusedVariables false
set_option linter.unusedSimpArgs false

/-- the cells of bytes. -/
def bcells (l : List UInt8) : Array Value := (l.map fun b => Value.int .u8 (b.toNat : Int)).toArray
theorem bcells_size (l : List UInt8) : (bcells l).size = l.length := by simp [bcells]
theorem bcells_set (l : List UInt8) (i : Nat) (c : UInt8) : (bcells l).setIfInBounds i (.int .u8 (c.toNat : Int)) = bcells (l.set i c) := by
  apply Array.toList_inj.1
  simp [bcells]
theorem own_from {w : World} {b k : Nat} {l : List UInt8} {t : TypeId} (h : Own w b (bcells (List.replicate k 0 ++ l)) t) : Lib.Bytes w b k (bs l) := by
  intro i hi
  rw [bs_size] at hi
  rw [h.cell (k + i) (by rw [bcells_size]; simp; exact hi)]
  simp only [bcells, List.getElem_toArray, List.getElem_map]
  rw [List.getElem_append_right (by simp)]
  simp
  rfl
theorem dig_step {w : World} {b g m : Nat} {l : List UInt8} {t : TypeId} (ho : Own w b (bcells (List.replicate (g + 1) 0 ++ l)) t) :
    Own (w.setCell ⟨b, g, none⟩ (.int .u8 (48 + (m : Int) % 10))) b (bcells (List.replicate g 0 ++ (dg m :: l))) t := by
  have h := ho.set g (.int .u8 ((dg m).toNat : Int))
  rw [bcells_set] at h
  have e1 : ((dg m).toNat : Int) = 48 + (m : Int) % 10 := by rw [dg_nat]; omega
  have e2 : (List.replicate (g + 1) 0 ++ l).set g (dg m) = List.replicate g 0 ++ (dg m :: l) := by
    rw [List.replicate_succ', List.append_assoc, List.set_append_right _ _ (by simp)]
    simp
  rw [e1, e2] at h
  exact h

set_option maxRecDepth 100000 in
set_option maxHeartbeats 4000000 in
theorem wdigits (n : Nat) (w : World) (hn : n ≤ 9007199254740992) :
    Calls Try.prog 68 #[.int .i64 n] w fun e w' => e = .returned (.string (bs (digs n))) ∧ Kept [] w w' := by
  go_enter Try.func68, Try.ntmps68
  go_wp2_with fail
  go_loopw [0, 4, 5] (fun a i fs wr => ∃ (f m : Nat) (l : List UInt8), m ≤ 9007199254740992 ∧ l.length + f = 20 ∧ a = .int .i64 m ∧ i = .int .i64 f ∧ fs = .bool l.isEmpty ∧ Aside (m < 10 ^ f ∧ digs n = ahead f m l ++ l) ∧ Own wr w.heap.size (bcells (List.replicate f 0 ++ l)) 118 ∧ Kept [] w wr) (fun _ i _ _ => (intOf i).toNat)
  case atStart => exact ⟨20, n, [], hn, rfl, rfl, rfl, rfl, ⟨by omega, by simp [ahead, digs]⟩, Own.new _ _ _, (Kept.refl _ _).alloc _⟩
  case round =>
    obtain ⟨f, m, l, hm, hlen, rfl, rfl, rfl, hA, ho, hk⟩ := hrel
    by_cases hgo : 0 < m ∨ l = []
    · have hA2 : ∃ g, f = g + 1 ∧ Aside (m / 10 < 10 ^ g ∧ digs n = ahead g (m / 10) (dg m :: l) ++ (dg m :: l)) := by
        obtain ⟨h1, h2⟩ := hA
        cases f with
        | zero =>
          have hm0 : m = 0 := by simpa using h1
          rcases hgo with h | h
          · omega
          · subst hm0 h
            simp at hlen
        | succ g =>
          refine ⟨g, rfl, ?_, by rw [h2, ahead_step hgo]⟩
          rw [Nat.div_lt_iff_lt_mul (by decide)]; rw [Nat.pow_succ] at h1; exact h1
      obtain ⟨g, rfl, hA2⟩ := hA2
      clear hA
      have e2 : IntKind.i64.wrap ((m : Int) / 10) = ((m / 10 : Nat) : Int) := by rw [IntKind.wrap_i64]; omega
      have e3 : (((g + 1 : Nat) : Int) - 1) = (g : Int) := by omega
      have c0 : ∃ v, wr.cell? ⟨w.heap.size, g, none⟩ = some v := ⟨_, ho.cell g (by rw [bcells_size]; simp; omega)⟩
      obtain ⟨v, c0⟩ := c0
      have z0 := ho.free g
      have hg20 : g < 20 := by omega
      have ho2 := dig_step (m := m) ho
      have hk2 : Kept [] w (wr.setCell ⟨w.heap.size, g, none⟩ (.int .u8 (48 + (m : Int) % 10))) := hk.setCell (Or.inr (Nat.le_refl _)) _
      cases hem : l.isEmpty
      · have h : 0 < m := by
          rcases hgo with h | h
          · exact h
          · subst h; cases hem
        go_wp2_with fail
        exact ⟨⟨g, m / 10, dg m :: l, by omega, by rw [List.length_cons]; omega, by go_num, rfl, rfl, hA2, ho2, hk2⟩, by simp [intOf]⟩
      · obtain rfl : l = [] := by cases l with | nil => rfl | cons a b => cases hem
        go_wp2_with fail
        · rename_i h0
          subst h0
          exact ⟨⟨g, 0, dg 0 :: [], by omega, by rw [List.length_cons]; omega, rfl, rfl, rfl, hA2, ho2, hk2⟩, by simp [intOf]⟩
        · exact ⟨⟨g, m / 10, dg m :: [], by omega, by rw [List.length_cons]; omega, by go_num, rfl, rfl, hA2, ho2, hk2⟩, by simp [intOf]⟩
    · have hm0 : m = 0 := by omega
      have hl : l ≠ [] := fun h => hgo (Or.inr h)
      subst hm0
      have hfin : digs n = l := by rw [hA.2, ahead_end hl]
      have HF := Lib.hid hfin
      clear hA hfin
      have hem : l.isEmpty = false := by cases l with | nil => exact absurd rfl hl | cons a b => rfl
      have hb := own_from ho
      have hconv := Lib.run_convert_whole (P := Try.prog) wr 27 5 9 Try.underlying27 Try.underlying5 Try.underlying9 _ _ _ hb
      rw [bs_size] at hconv
      have hf : f < 20 := by have := List.length_pos_iff.2 hl; omega
      have hal : Try.prog.arrayLen 118 = 20 := by kernel_rfl
      have hsl : (Instr.sliceAt 118 (.pointer (some ⟨w.heap.size, 0, none⟩)) (some (.int .i64 (f : Int))) none none).run Try.prog wr = .ok (.slice (some ⟨w.heap.size, f, none⟩) l.length (20 - f)) wr := by
        rw [run_sliceAt_array_l wr _ _ (by kernel_rfl) .i64 (f : Int) (by omega) (by rw [hal]; omega), hal]
        rw [show (sizeOf (Try.prog.elem 118)).run Try.prog wr = .ok 1 wr by kernel_rfl]
        show Result.ok (slicedAt _ (f : Int).toNat 20 20 1) wr = _
        unfold slicedAt
        rw [Int.toNat_natCast, if_neg (by omega), show 20 - f = l.length by omega]
        simp [Addr.add]
        exact fun h => h.symm
      go_wp2_with fail
      go_ret
      exact ⟨by rw [HF.out]; rfl, hk⟩
end Go.Proofs.Ytkghkkfcgegmeaa
