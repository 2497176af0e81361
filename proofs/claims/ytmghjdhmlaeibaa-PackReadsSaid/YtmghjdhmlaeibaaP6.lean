/- The page's example; texts filled up; what is read, laid again. -/
import Derived.Test.YtmghjdhmlaeibaaP5
namespace Go.Proofs.Ytmghjdhmlaeibaa
open Go.RowKit
set_option linter.unusedVariables false
set_option linter.unusedSimpArgs false

set_option maxRecDepth 100000 in
theorem pawake (w : World) : Calls Try.prog 12 #[] w fun e w' => e = .returned (.bool true) ∧ Kept [] w w' := by
  have u1 : ∀ w, Calls Try.prog 33 #[.int .u16 258] w fun e w' => e = .returned (.string { data := #[2, 1] }) ∧ Kept [] w w' := fun w => packU16 258 w (by decide)
  have u2 : ∀ w, Calls Try.prog 19 #[.string { data := #[97, 98] }] w fun e w' => e = .returned (.string { data := #[2, 0, 0, 0, 97, 98] }) ∧ Kept [] w w' := fun w => packText { data := #[97, 98] } w (by decide)
  have u3 : ∀ (v : Value) (w : World), StrsIn w v [{ data := #[120] }, { data := #[] }] 0 w.heap.size → Calls Try.prog 16 #[v] w fun e w' => e = .returned (.string { data := #[2, 0, 0, 0, 1, 0, 0, 0, 120, 0, 0, 0, 0] }) ∧ Kept [] w w' := fun v w h => packList v _ _ _ w h (by decide) (fun s hs => by
    have hs' : s = { data := #[120] } ∨ s = { data := #[] } := by simpa using hs
    rcases hs' with rfl | rfl <;> decide) (by decide)
  have u4 := fun w => packRead { data := #[2, 1, 2, 0, 0, 0, 97, 98, 2, 0, 0, 0, 1, 0, 0, 0, 120, 0, 0, 0, 0] } w
  have u5 : ∀ w, Calls Try.prog 20 #[.string { data := #[97] }, .int .i64 3] w fun e w' => e = .returned (.string { data := #[97, 0, 0] }) ∧ Kept [] w w' := fun w => packFill { data := #[97] } 3 w (by decide) (by decide)
  have cat1 : (⟨#[2, 1]⟩ : ByteArray) ++ ⟨#[2, 0, 0, 0, 97, 98]⟩ = ⟨#[2, 1, 2, 0, 0, 0, 97, 98]⟩ := rfl
  have cat2 : (⟨#[2, 1, 2, 0, 0, 0, 97, 98]⟩ : ByteArray) ++ ⟨#[2, 0, 0, 0, 1, 0, 0, 0, 120, 0, 0, 0, 0]⟩ = ⟨#[2, 1, 2, 0, 0, 0, 97, 98, 2, 0, 0, 0, 1, 0, 0, 0, 120, 0, 0, 0, 0]⟩ := rfl
  have r1 : numR 2 [2, 1, 2, 0, 0, 0, 97, 98, 2, 0, 0, 0, 1, 0, 0, 0, 120, 0, 0, 0, 0] 0 = (258, [2, 0, 0, 0, 97, 98, 2, 0, 0, 0, 1, 0, 0, 0, 120, 0, 0, 0, 0], 0) := by decide
  have r2 : textR [2, 0, 0, 0, 97, 98, 2, 0, 0, 0, 1, 0, 0, 0, 120, 0, 0, 0, 0] 0 = ([97, 98], [2, 0, 0, 0, 1, 0, 0, 0, 120, 0, 0, 0, 0], 0) := by decide
  have r3 : listR [2, 0, 0, 0, 1, 0, 0, 0, 120, 0, 0, 0, 0] 0 = ([[120], []], [], 0) := by decide
  have v1 : ∀ b w, RdAt w b [2, 1, 2, 0, 0, 0, 97, 98, 2, 0, 0, 0, 1, 0, 0, 0, 120, 0, 0, 0, 0] 0 → Calls Try.prog 27 #[.pointer (some ⟨b, 0, none⟩)] w fun r w' => r = .returned (.int .u16 258) ∧ RdAt w' b [2, 0, 0, 0, 97, 98, 2, 0, 0, 0, 1, 0, 0, 0, 120, 0, 0, 0, 0] 0 ∧ Kept [b] w w' := fun b w h => by
    have h := rdU16 b _ _ w h; rw [r1] at h; exact h
  have v2 : ∀ b w, RdAt w b [2, 0, 0, 0, 97, 98, 2, 0, 0, 0, 1, 0, 0, 0, 120, 0, 0, 0, 0] 0 → Calls Try.prog 18 #[.pointer (some ⟨b, 0, none⟩)] w fun r w' => r = .returned (.string { data := #[97, 98] }) ∧ RdAt w' b [2, 0, 0, 0, 1, 0, 0, 0, 120, 0, 0, 0, 0] 0 ∧ Kept [b] w w' := fun b w h => by
    have h := rdText b _ _ w h; rw [r2] at h; exact h
  have v3 : ∀ b w, RdAt w b [2, 0, 0, 0, 1, 0, 0, 0, 120, 0, 0, 0, 0] 0 → Calls Try.prog 14 #[.pointer (some ⟨b, 0, none⟩)] w fun r w' => (∃ v, r = .returned v ∧ StrsIn w' v [{ data := #[120] }, { data := #[] }] w.heap.size w'.heap.size) ∧ RdAt w' b [] 0 ∧ Kept [b] w w' := fun b w h => by
    have h := rdList b _ _ w h (Own.lt h); rw [r3] at h; exact h
  have v4 : ∀ b w, RdAt w b [] 0 → Calls Try.prog 17 #[.pointer (some ⟨b, 0, none⟩)] w fun r w' => r = .returned (.int .i64 0) ∧ w = w' := fun b w h => rdLeft b [] 0 w h
  have v5 : ∀ b w, RdAt w b [] 0 → Calls Try.prog 15 #[.pointer (some ⟨b, 0, none⟩)] w fun r w' => r = .returned (.int .i64 0) ∧ w = w' := fun b w h => rdErr b [] 0 w h
  have v6 : ∀ b w, RdAt w b [] 0 → Calls Try.prog 24 #[.pointer (some ⟨b, 0, none⟩)] w fun r w' => r = .returned (.int .i64 0) ∧ w = w' := fun b w h => rdEnd b [] 0 w h
  clear r1 r2 r3
  have V1 := Lib.hid v1
  have V2 := Lib.hid v2
  have V3 := Lib.hid v3
  have V4 := Lib.hid v4
  have V5 := Lib.hid v5
  have V6 := Lib.hid v6
  clear v1 v2 v3 v4 v5 v6
  go_enter Try.func12, Try.ntmps12
  go_wp2_with fail
  refine (u1 _).mono ?_; rintro e w1 ⟨rfl, k1⟩
  go_wp2_with fail
  refine (u2 _).mono ?_; rintro e w2 ⟨rfl, k2⟩
  have k3 := k1.trans k2
  clear k1 k2
  have hin : StrsIn (w2.alloc (.cells #[.string { data := #[120] }, .string { data := #[] }] 9)) (.slice (some ⟨w2.heap.size, 0, none⟩) 2 2) [{ data := #[120] }, { data := #[] }] 0 (w2.alloc (.cells #[.string { data := #[120] }, .string { data := #[] }] 9)).heap.size := by
    refine Or.inr ⟨w2.heap.size, 0, 2, rfl, fun i hi => ?_, Nat.zero_le _, by simp, Nat.le_refl _, by simp⟩
    have ho := Own.new w2 #[.string { data := #[120] }, .string { data := #[] }] 9
    have hi2 : i = 0 ∨ i = 1 := by simp at hi; omega
    rcases hi2 with rfl | rfl
    · exact ho.cell 0 (by simp)
    · exact ho.cell 1 (by simp)
  have hin' := Lib.hid hin
  clear hin
  go_wp2_with fail
  refine (u3 _ _ hin'.out).mono ?_; rintro e w3 ⟨rfl, k4⟩
  have k5 := (k3.alloc _).trans k4
  clear k3 k4 hin'
  go_wp2_with fail
  refine (u4 _).mono ?_; rintro e w4 ⟨rfl, hR, k6⟩
  have k7 := k5.trans k6
  have hle : w.heap.size ≤ w3.heap.size := k5.size
  clear k5 k6
  generalize w3.heap.size = b at *
  go_wp2_with fail
  refine (V1.out _ _ hR).mono ?_; rintro e w5 ⟨rfl, hR2, k8⟩
  have k9 : Kept [] w w5 := k7.call k8 (by simpa using hle)
  clear k7 k8 hR
  go_wp2_with fail
  refine (V2.out _ _ hR2).mono ?_; rintro e w6 ⟨rfl, hR3, k10⟩
  have k11 : Kept [] w w6 := k9.call k10 (by simpa using hle)
  clear k9 k10 hR2
  go_wp2_with fail
  refine (V3.out _ _ hR3).mono ?_; rintro e w7 ⟨⟨v, rfl, hS⟩, hR4, k12⟩
  have k13 : Kept [] w w7 := k11.call k12 (by simpa using hle)
  clear k11 k12 hR3
  obtain ⟨sb, off, c, rfl, hcell⟩ : ∃ sb off c, v = .slice (some ⟨sb, off, none⟩) 2 c ∧ w7.cell? ⟨sb, off, none⟩ = some (.string { data := #[120] }) := by
    rcases hS with ⟨h, _⟩ | ⟨sb, off, c, rfl, h2, _⟩
    · simp at h
    · exact ⟨sb, off, c, rfl, h2 0 (by simp)⟩
  clear hS
  go_wp2_with fail
  refine (u1 _).mono ?_; rintro e w8 ⟨rfl, k14⟩
  have hcell2 : w8.cell? ⟨sb, off, none⟩ = some (.string { data := #[120] }) := by
    rw [k14.cell (World.block_lt_of_cell? _ _ hcell) (by simp)]; exact hcell
  have hR5 : RdAt w8 b [] 0 := k14.own hR4 (by simp)
  have k15 := k13.trans k14
  clear k13 k14 hR4 hcell
  go_wp2_with fail
  refine (V4.out _ _ hR5).mono ?_; rintro e w' ⟨rfl, rfl⟩
  go_wp2_with fail
  refine (V5.out _ _ hR5).mono ?_; rintro e w' ⟨rfl, rfl⟩
  go_wp2_with fail
  refine (V6.out _ _ hR5).mono ?_; rintro e w' ⟨rfl, rfl⟩
  go_wp2_with fail
  refine (u5 _).mono ?_; rintro e w9 ⟨rfl, k16⟩
  go_wp2_with fail
  go_ret
  exact ⟨rfl, k15.trans k16⟩

set_option maxRecDepth 100000 in
theorem fills_walk (s : ByteArray) (n : Int) (w : World) (_hs : s.size ≤ maxLen) (_hn : (Lit.int .i64 n).wf = true) :
    Calls Try.prog 4 #[.string s, .int .i64 n] w fun e w' => e = .returned (.bool true) ∧ Below w.heap.size w w' := by
  by_cases h1 : (2000 : Int) < s.size
  · go_enter Try.func4, Try.ntmps4
    go_wp2_with fail
    refine (pawake _).mono ?_; rintro e w1 ⟨rfl, k⟩
    go_wp2_with fail
    go_ret
    exact ⟨rfl, k.below⟩
  · by_cases h2 : (5000 : Int) < n
    · go_enter Try.func4, Try.ntmps4
      go_wp2_with fail
      refine (pawake _).mono ?_; rintro e w1 ⟨rfl, k⟩
      go_wp2_with fail
      go_ret
      exact ⟨rfl, k.below⟩
    · have f1 := fun w => packFill s n w (by omega) (by omega)
      have f2 := fun w => rFill s n w (by omega) (by omega)
      have he : ((bs (fillL s.data.toList n)).toList == (bs (fillL s.data.toList n)).toList) = true := by simp
      generalize fillL s.data.toList n = F at *
      go_enter Try.func4, Try.ntmps4
      go_wp2_with fail
      refine (f1 _).mono ?_; rintro e w1 ⟨rfl, k1⟩
      go_wp2_with fail
      refine (f2 _).mono ?_; rintro e w2 ⟨rfl, k2⟩
      go_wp2_with fail
      refine (pawake _).mono ?_; rintro e w3 ⟨rfl, k3⟩
      go_wp2_with fail
      go_ret
      exact ⟨rfl, ((k1.trans k2).trans k3).below⟩
end Go.Proofs.Ytmghjdhmlaeibaa
