/- Walks of layer 4 (weigh): numbers as digits, by the reference. -/
import Derived.Test.YtkghkkfcgegmeaaL2
import Derived.Lib.ConvBytes
import Derived.Lib.SlBytesRow
namespace Go.Proofs.Ytkghkkfcgegmeaa
open Go.RowKit
set_option linter.unusedVariables false
set_option linter.unusedSimpArgs false

/-- what is still ahead of the digits that were found. -/
def ahead (f n : Nat) (l : List UInt8) : List UInt8 := if n = 0 ∧ l ≠ [] then [] else digsF f n
theorem ahead_step {f n : Nat} {l : List UInt8} (h : 0 < n ∨ l = []) : ahead (f + 1) n l ++ l = ahead f (n / 10) (dg n :: l) ++ (dg n :: l) := by
  have h1 : ¬ (n = 0 ∧ l ≠ []) := fun ⟨a, b⟩ => by rcases h with h | h; omega; exact b h
  unfold ahead
  rw [if_neg h1, digsF]
  by_cases h10 : n < 10
  · rw [if_pos h10, if_pos ⟨by omega, by simp⟩]; simp
  · rw [if_neg h10, if_neg (by omega)]; simp
theorem ahead_end {f : Nat} {l : List UInt8} (h : l ≠ []) : ahead f 0 l ++ l = l := by simp [ahead, h]

theorem conv_one (c : UInt8) (B : Nat) (W : World) (h : W.cell? ⟨B, 0, none⟩ = some (.int .u8 (c.toNat : Int))) : (convert 27 9 (.slice (some ⟨B, 0, none⟩) 1 1)).run Try.prog W = .ok (.string (bs [c])) W := by
  have hb : Lib.Bytes W B 0 (bs [c]) := by
    intro i hi
    rw [bs_size] at hi
    have : i = 0 := by simp at hi; exact hi
    subst this
    rw [Nat.zero_add, h]; rfl
  have := Lib.run_convert_whole (P := Try.prog) W 27 5 9 Try.underlying27 Try.underlying5 Try.underlying9 B 0 (bs [c]) hb 1
  rw [bs_size] at this
  exact this
def emptyB (s : ByteArray) : Nat := if s.size = 0 then 1 else 0
def meas (a s : Value) : Nat := match s with | .string b => 2 * (intOf a).toNat + emptyB b | _ => 0

set_option maxRecDepth 100000 in
set_option maxHeartbeats 4000000 in
theorem rnumber04 (n : Nat) (w : World) (hn : n ≤ 9007199254740992) :
    Calls Try.prog 71 #[.int .i64 n] w fun e w' => e = .returned (.string (bs (digs n))) ∧ Kept [] w w' := by
  go_enter Try.func71, Try.ntmps71
  go_wp2_with fail
  go_loopw [0, 3] (fun a s wr => ∃ (f m : Nat) (l : List UInt8), m ≤ 9007199254740992 ∧ l.length + f = 20 ∧ a = .int .i64 m ∧ s = .string (bs l) ∧ Aside (m < 10 ^ f ∧ digs n = ahead f m l ++ l) ∧ Kept [] w wr) (fun a s _ => meas a s)
  case atStart => exact ⟨20, n, [], hn, rfl, rfl, rfl, ⟨by omega, by simp [ahead, digs]⟩, Kept.refl _ _⟩
  case round =>
    obtain ⟨f, m, l, hm, hlen, rfl, rfl, hA, hk⟩ := hrel
    by_cases hgo : 0 < m ∨ l = []
    · have hA2 : ∃ g, l.length + 1 + g = 20 ∧ Aside (m / 10 < 10 ^ g ∧ digs n = ahead g (m / 10) (dg m :: l) ++ (dg m :: l)) := by
        obtain ⟨h1, h2⟩ := hA
        cases f with
        | zero =>
          have hm0 : m = 0 := by simpa using h1
          rcases hgo with h | h
          · omega
          · subst hm0 h
            simp at hlen
        | succ g =>
          refine ⟨g, by omega, ?_, by rw [h2, ahead_step hgo]⟩
          rw [Nat.div_lt_iff_lt_mul (by decide)]; rw [Nat.pow_succ] at h1; exact h1
      obtain ⟨g, hg, hA2⟩ := hA2
      clear hA
      have e2 : IntKind.i64.wrap ((m : Int) / 10) = ((m / 10 : Nat) : Int) := by rw [IntKind.wrap_i64]; omega
      have hz : (bs l).size = l.length := bs_size l
      have hz1 : (bs [dg m]).size = 1 := by rw [bs_size]; rfl
      have hz2 : ¬ ((bs [dg m]).size + (bs l).size > 9223372036854775807) := by omega
      have hfin : Hid (bs [dg m] ++ bs l = bs (dg m :: l)) := by
        show bs [dg m] ++ bs l = _
        rw [bs_append]; rfl
      have hconv := fun (B : Nat) (W : World) (h : W.cell? ⟨B, 0, none⟩ = some (.int .u8 ((dg m).toNat : Int))) => conv_one (dg m) B W h
      have hd : ((dg m).toNat : Int) = 48 + (m : Int) % 10 := by rw [dg_nat]; omega
      have hms : Hid (meas (.int .i64 ((m / 10 : Nat) : Int)) (.string (bs (dg m :: l))) < meas (.int .i64 m) (.string (bs l))) := by
        show 2 * (((m / 10 : Nat) : Int)).toNat + emptyB (bs (dg m :: l)) < 2 * ((m : Int)).toNat + emptyB (bs l)
        have : emptyB (bs (dg m :: l)) = 0 := by unfold emptyB; rw [bs_size, if_neg (by simp)]
        rw [this]
        rcases hgo with h | h
        · unfold emptyB; split <;> omega
        · subst h; unfold emptyB; rw [bs_size]; simp; omega
      rw [hd] at hconv
      rcases (show 0 < m ∨ (m = 0 ∧ l = []) by rcases Nat.eq_zero_or_pos m with h | h; exact Or.inr ⟨h, hgo.resolve_left (by omega)⟩; exact Or.inl h) with h | h
      · clear hd
        generalize hR : bs (dg m :: l) = R at *
        generalize bs [dg m] = c0 at *
        go_wp2_with fail
        refine ⟨⟨g, m / 10, dg m :: l, by omega, by rw [List.length_cons]; exact hg, by go_num, by rw [hfin.out, hR], hA2, hk.alloc _⟩, ?_⟩
        have e3 : (m : Int) / 10 = ((m / 10 : Nat) : Int) := by omega
        rw [e3, hfin.out]; exact hms.out
      · obtain ⟨rfl, rfl⟩ := h
        clear hd
        have he : (bs ([] : List UInt8)).toList.isEmpty = true := by rw [bs_toList]; rfl
        generalize hR : bs (dg 0 :: []) = R at *
        go_wp2_with fail
        refine ⟨⟨g, 0, [dg 0], by omega, by rw [List.length_cons]; exact hg, rfl, by rw [hfin.out, hR], hA2, hk.alloc _⟩, ?_⟩
        rw [hfin.out]; exact hms.out
    · have hm0 : m = 0 := by omega
      have hl : l ≠ [] := fun h => hgo (Or.inr h)
      subst hm0
      have hfin : digs n = l := by rw [hA.2, ahead_end hl]
      have HF := Lib.hid hfin
      clear hA hfin
      have he : (bs l).toList.isEmpty = false := by rw [bs_toList]; cases l with | nil => exact absurd rfl hl | cons a b => rfl
      go_wp2_with fail
      go_ret
      exact ⟨by rw [HF.out]; rfl, hk⟩
end Go.Proofs.Ytkghkkfcgegmeaa
