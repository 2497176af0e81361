/- Walks of layer 9 (disk): ready, at, Read, operate, and what is told; of nobody's disk too. -/
import Derived.Test.YtkhbobjfmedimaaD1
namespace Go.Proofs.Ytkhbobjfmedimaa
open Go.RowKit
set_option linter.unusedVariables false
set_option linter.unusedSimpArgs false

theorem scells_get (l : List (List UInt8)) (i : Nat) (h : i < l.length) : (scells l)[i]'(by simp [scells]; exact h) = .string (bs l[i]) := by simp [scells]
theorem DiskAt.six {w : World} {b sb mb lo : Nat} {d : DK} (h : DiskAt w b sb mb lo d) : ∃ p c, w.cell? ⟨b, 0, none⟩ = some (.slice (some ⟨sb, 0, none⟩) d.stand.length d.stand.length) ∧ w.cell? ⟨b, 1, none⟩ = some (.slice p d.waits.length c) ∧ w.cell? ⟨b, 2, none⟩ = some (.map (some mb)) ∧ w.cell? ⟨b, 3, none⟩ = some (.int .i64 d.fuse) ∧ w.cell? ⟨b, 4, none⟩ = some (.int .i64 d.ops) ∧ w.cell? ⟨b, 5, none⟩ = some (.bool d.down) ∧ 1 ≤ d.stand.length ∧ d.stand.length ≤ 8192 ∧ d.ops ≤ 100000 := by
  obtain ⟨wv, n, o, os, hw, hm, h1, h2, h3, h4, h5, h6, h7, h8, h9, h10, h11⟩ := h
  obtain ⟨p, c, rfl⟩ := own_shape hw
  obtain ⟨c0, c1, c2, c3, c4, c5⟩ := o.c6
  exact ⟨p, c, c0, c1, c2, c3, c4, c5, h7, h8, h11⟩

theorem dReady_nil (w : World) : Calls Try.prog 30 #[.pointer none] w fun e w' => e = .returned (.int .i64 4) ∧ w = w' := by
  go_enter Try.func30, Try.ntmps30
  go_wp2_with fail
  go_ret
  exact ⟨rfl, rfl⟩
def readyOf (d : DK) : Int := if d.down then 90 else 0
theorem dReady (b sb mb lo : Nat) (d : DK) (w : World) (h : DiskAt w b sb mb lo d) : Calls Try.prog 30 #[.pointer (some ⟨b, 0, none⟩)] w fun e w' => e = .returned (.int .i64 (readyOf d)) ∧ w = w' := by
  obtain ⟨p, c, c0, c1, c2, c3, c4, c5, h1, h2, h3⟩ := h.six
  have hne : ((d.stand.length : Int) == 0) = false := by rw [beq_eq_false_iff_ne]; omega
  unfold readyOf
  generalize d.stand.length = n at *
  cases hd : d.down
  · rw [hd] at c5
    clear h hd
    go_enter Try.func30, Try.ntmps30
    go_wp2_with fail
    go_ret
    exact ⟨rfl, rfl⟩
  · rw [hd] at c5
    clear h hd
    go_enter Try.func30, Try.ntmps30
    go_wp2_with fail
    go_ret
    exact ⟨rfl, rfl⟩
theorem dAt_nil (i : Int) (w : World) : Calls Try.prog 28 #[.pointer none, .int .i64 i] w fun e w' => e = .returned (.int .i64 4) ∧ w = w' := by
  go_enter Try.func28, Try.ntmps28
  go_wp2_with fail
  refine (dReady_nil _).mono ?_; rintro e w' ⟨rfl, rfl⟩
  go_wp2_with fail
  go_ret
  exact ⟨rfl, rfl⟩
/-- what is wrong with a sector. -/
def atOf (d : DK) (i : Int) : Int := if d.down then 90 else if i < 0 ∨ (d.stand.length : Int) ≤ i then 5 else 0
theorem dAt (b sb mb lo : Nat) (d : DK) (i : Int) (w : World) (h : DiskAt w b sb mb lo d) : Calls Try.prog 28 #[.pointer (some ⟨b, 0, none⟩), .int .i64 i] w fun e w' => e = .returned (.int .i64 (atOf d i)) ∧ w = w' := by
  have hr := dReady b sb mb lo d w h
  obtain ⟨p, c, c0, c1, c2, c3, c4, c5, h1, h2, h3⟩ := h.six
  unfold readyOf at hr
  unfold atOf
  generalize d.stand.length = n at *
  cases hd : d.down
  · rw [hd] at hr
    simp only [Bool.false_eq_true, if_false] at hr ⊢
    clear h hd
    rcases (by omega : i < 0 ∨ (0 ≤ i ∧ i < n) ∨ (0 ≤ i ∧ ¬ (i < n))) with h1 | ⟨h1, h2⟩ | ⟨h1, h2⟩
    · rw [if_pos (Or.inl h1)]
      go_enter Try.func28, Try.ntmps28
      go_wp2_with fail
      refine hr.mono ?_; rintro e w' ⟨rfl, rfl⟩
      go_wp2_with fail
      go_ret
      exact ⟨rfl, rfl⟩
    · rw [if_neg (by omega)]
      go_enter Try.func28, Try.ntmps28
      go_wp2_with fail
      refine hr.mono ?_; rintro e w' ⟨rfl, rfl⟩
      go_wp2_with fail
      go_ret
      exact ⟨rfl, rfl⟩
    · rw [if_pos (Or.inr (by omega))]
      go_enter Try.func28, Try.ntmps28
      go_wp2_with fail
      refine hr.mono ?_; rintro e w' ⟨rfl, rfl⟩
      go_wp2_with fail
      go_ret
      exact ⟨rfl, rfl⟩
  · rw [hd] at hr
    simp only [if_true] at hr ⊢
    clear h hd
    go_enter Try.func28, Try.ntmps28
    go_wp2_with fail
    refine hr.mono ?_; rintro e w' ⟨rfl, rfl⟩
    go_wp2_with fail
    go_ret
    exact ⟨rfl, rfl⟩
theorem dRead_nil (i : Int) (w : World) : Calls Try.prog 20 #[.pointer none, .int .i64 i] w fun e w' => e = .returned (.tuple #[.string ⟨#[]⟩, .int .i64 4]) ∧ w = w' := by
  go_enter Try.func20, Try.ntmps20
  go_wp2_with fail
  refine (dAt_nil _ _).mono ?_; rintro e w' ⟨rfl, rfl⟩
  go_wp2_with fail
  go_ret2
  exact ⟨rfl, rfl⟩
/-- what is seen of a sector. -/
def seen (d : DK) (i : Nat) : List UInt8 := (lastOf d.waits i).getD (d.stand.getD i [])
theorem dRead_no (b sb mb lo : Nat) (d : DK) (i : Int) (w : World) (h : DiskAt w b sb mb lo d) (hno : atOf d i ≠ 0) : Calls Try.prog 20 #[.pointer (some ⟨b, 0, none⟩), .int .i64 i] w fun e w' => e = .returned (.tuple #[.string ⟨#[]⟩, .int .i64 (atOf d i)]) ∧ w = w' := by
  have hr := dAt b sb mb lo d i w h
  clear h
  generalize atOf d i = x at *
  have hx : (x == 0) = false := by simpa using hno
  clear hno
  go_enter Try.func20, Try.ntmps20
  go_wp2_with fail
  refine hr.mono ?_; rintro e w' ⟨rfl, rfl⟩
  go_wp2_with fail
  go_ret2
  exact ⟨rfl, rfl⟩
set_option maxRecDepth 100000 in
theorem dRead (b sb mb lo : Nat) (d : DK) (i : Nat) (w : World) (h : DiskAt w b sb mb lo d) (hd : d.down = false) (hi : i < d.stand.length) : Calls Try.prog 20 #[.pointer (some ⟨b, 0, none⟩), .int .i64 i] w fun e w' => e = .returned (.tuple #[.string (bs (seen d i)), .int .i64 0]) ∧ w = w' := by
  have hr := dAt b sb mb lo d i w h
  have e0 : atOf d i = 0 := by unfold atOf; rw [hd, if_neg (by simp), if_neg (by omega)]
  rw [e0] at hr
  obtain ⟨p, c, c0, c1, c2, c3, c4, c5, h1, h2, h3⟩ := h.six
  obtain ⟨wv, n, o, os, hw, hm, _⟩ := h
  have hlook := hm.look i (by omega)
  have hcell : w.cell? ⟨sb, i, none⟩ = some (.string (bs d.stand[i])) := by
    rw [← scells_get d.stand i hi]
    exact os.cell i (by simp [scells]; exact hi)
  have hs : seen d i = (lastOf d.waits i).getD d.stand[i] := by
    unfold seen; rw [List.getD_eq_getElem?_getD, List.getElem?_eq_getElem hi]; rfl
  rw [hs]
  have hi' : (i : Int) < d.stand.length := by omega
  clear os hw hm o hs e0 hd
  generalize d.stand[i] = st at *
  generalize d.stand.length = n at *
  clear hi h1 h2
  cases hl : lastOf d.waits i with
  | none =>
    rw [hl] at hlook
    simp only [Option.getD_none, Option.isSome_none] at hlook ⊢
    go_enter Try.func20, Try.ntmps20
    go_wp2_with fail
    refine hr.mono ?_; rintro e w' ⟨rfl, rfl⟩
    go_wp2_with fail
    go_ret2
    exact ⟨rfl, rfl⟩
  | some t =>
    rw [hl] at hlook
    simp only [Option.getD_some, Option.isSome_some] at hlook ⊢
    go_enter Try.func20, Try.ntmps20
    go_wp2_with fail
    refine hr.mono ?_; rintro e w' ⟨rfl, rfl⟩
    go_wp2_with fail
    go_ret2
    exact ⟨rfl, rfl⟩
end Go.Proofs.Ytkhbobjfmedimaa
