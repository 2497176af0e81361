/- Walks of layer 9 (disk): what is told; operations counted; writes. -/
import Derived.Test.YtkhbobjfmedimaaD2
import Derived.Laws.MakeOwn
import Derived.Maps.AppendAt
import Derived.Deep.AppendLies
import Derived.RegionTactic
import Derived.OwnWalk
namespace Go.Proofs.Ytkhbobjfmedimaa
open Go.RowKit Go.Maps
set_option linter.unusedVariables false
set_option linter.unusedSimpArgs false

theorem dLen_nil (w : World) : Calls Try.prog 19 #[.pointer none] w fun e w' => e = .returned (.int .i64 0) ∧ w = w' := by
  go_enter Try.func19, Try.ntmps19
  go_wp2_with fail
  go_ret
  exact ⟨rfl, rfl⟩
theorem dWaits_nil (w : World) : Calls Try.prog 16 #[.pointer none] w fun e w' => e = .returned (.int .i64 0) ∧ w = w' := by
  go_enter Try.func16, Try.ntmps16
  go_wp2_with fail
  go_ret
  exact ⟨rfl, rfl⟩
theorem dOps_nil (w : World) : Calls Try.prog 17 #[.pointer none] w fun e w' => e = .returned (.int .i64 0) ∧ w = w' := by
  go_enter Try.func17, Try.ntmps17
  go_wp2_with fail
  go_ret
  exact ⟨rfl, rfl⟩
theorem dDown_nil (w : World) : Calls Try.prog 18 #[.pointer none] w fun e w' => e = .returned (.bool false) ∧ w = w' := by
  go_enter Try.func18, Try.ntmps18
  go_wp2_with fail
  go_ret
  exact ⟨rfl, rfl⟩
theorem dLen (b sb mb lo : Nat) (d : DK) (w : World) (h : DiskAt w b sb mb lo d) : Calls Try.prog 19 #[.pointer (some ⟨b, 0, none⟩)] w fun e w' => e = .returned (.int .i64 d.stand.length) ∧ w = w' := by
  obtain ⟨p, c, c0, c1, c2, c3, c4, c5, h1, h2, h3⟩ := h.six
  clear h
  go_enter Try.func19, Try.ntmps19
  go_wp2_with fail
  go_ret
  exact ⟨rfl, rfl⟩
theorem dWaits (b sb mb lo : Nat) (d : DK) (w : World) (h : DiskAt w b sb mb lo d) : Calls Try.prog 16 #[.pointer (some ⟨b, 0, none⟩)] w fun e w' => e = .returned (.int .i64 d.waits.length) ∧ w = w' := by
  obtain ⟨p, c, c0, c1, c2, c3, c4, c5, h1, h2, h3⟩ := h.six
  clear h
  go_enter Try.func16, Try.ntmps16
  go_wp2_with fail
  go_ret
  exact ⟨rfl, rfl⟩
theorem dOps (b sb mb lo : Nat) (d : DK) (w : World) (h : DiskAt w b sb mb lo d) : Calls Try.prog 17 #[.pointer (some ⟨b, 0, none⟩)] w fun e w' => e = .returned (.int .i64 d.ops) ∧ w = w' := by
  obtain ⟨p, c, c0, c1, c2, c3, c4, c5, h1, h2, h3⟩ := h.six
  clear h
  go_enter Try.func17, Try.ntmps17
  go_wp2_with fail
  go_ret
  exact ⟨rfl, rfl⟩
theorem dDown (b sb mb lo : Nat) (d : DK) (w : World) (h : DiskAt w b sb mb lo d) : Calls Try.prog 18 #[.pointer (some ⟨b, 0, none⟩)] w fun e w' => e = .returned (.bool d.down) ∧ w = w' := by
  obtain ⟨p, c, c0, c1, c2, c3, c4, c5, h1, h2, h3⟩ := h.six
  clear h
  go_enter Try.func18, Try.ntmps18
  go_wp2_with fail
  go_ret
  exact ⟨rfl, rfl⟩
theorem dFuse_nil (n : Int) (w : World) : Calls Try.prog 24 #[.pointer none, .int .i64 n] w fun e w' => e = .returned (.tuple #[]) ∧ w = w' := by
  go_enter Try.func24, Try.ntmps24
  go_wp2_with fail
  go_end0
  exact ⟨rfl, rfl⟩

/-- an operation counted. -/
def opD (d : DK) : DK := ⟨d.stand, d.waits, if 0 < d.fuse then d.fuse - 1 else d.fuse, d.ops + 1, if d.fuse = 0 then true else d.down⟩
theorem DiskAt.nums {w w' : World} {b sb mb lo : Nat} {d d' : DK} (h : DiskAt w b sb mb lo d) (k : Kept [b] w w') (hs : d'.stand = d.stand) (hw : d'.waits = d.waits) (hf : -1 ≤ d'.fuse) (hf2 : d'.fuse ≤ 9223372036854775807) (ho : d'.ops ≤ 100000)
    (hown : ∀ v0 v1 v2, Own w b #[v0, v1, v2, .int .i64 d.fuse, .int .i64 d.ops, .bool d.down] 56 → Own w' b #[v0, v1, v2, .int .i64 d'.fuse, .int .i64 d'.ops, .bool d'.down] 56) : DiskAt w' b sb mb lo d' := by
  obtain ⟨wv, n, o, os, hwr, hm, hn, h2, h3, h4, h5, h6, h7, h8, h9, h10, h11⟩ := h
  refine ⟨wv, n, ?_, ?_, ?_, ?_, by rw [hw]; exact hn, h2, h3, h4, h5, Nat.le_trans h6 k.size, by rw [hs]; exact h7, by rw [hs]; exact h8, hf, hf2, ho⟩
  · rw [hs]; exact hown _ _ _ o
  · rw [hs]; exact k.own os (by simp; omega)
  · rw [hw]; exact ownsRow_kept hwr k (by simp; omega)
  · rw [hw]; exact hm.kept k (by simp; omega)

set_option maxRecDepth 100000 in
theorem dOperate (b sb mb lo : Nat) (d : DK) (w : World) (h : DiskAt w b sb mb lo d) (ho : d.ops < 100000) : Calls Try.prog 29 #[.pointer (some ⟨b, 0, none⟩)] w fun e w' => e = .returned (.bool (decide (d.fuse = 0))) ∧ DiskAt w' b sb mb lo (opD d) ∧ Kept [b] w w' := by
  have hn := fun (d' : DK) (w' : World) (k : Kept [b] w w') => DiskAt.nums (d' := d') h k
  have HN := Lib.hid hn
  clear hn
  obtain ⟨wv, n, o, os, hw, hm, g1, g2, g3, g4, g5, g6, g7, g8, g9, g10, g11⟩ := h
  obtain ⟨p, c, rfl⟩ := own_shape hw
  obtain ⟨c0, c1, c2, c3, c4, c5⟩ := o.c6
  have z := o.z6
  clear os hw hm
  obtain ⟨st, wa, fu, op, dn⟩ := d
  simp only at *
  obtain ⟨q, hq⟩ : ∃ q, q = op + 1 := ⟨_, rfl⟩
  have hop : ((op : Int) + 1) = (q : Int) := by omega
  have HQ := Lib.hid hq
  have HO := Lib.hid ho
  clear hq g11
  have hop2 : (op : Int) ≤ 100000 := by omega
  rcases (by omega : fu = 0 ∨ fu = -1 ∨ 0 < fu) with rfl | rfl | hp
  · go_enter Try.func29, Try.ntmps29
    go_wp2_with fail
    go_ret
    have kk := ((Kept.refl [b] w).setCell (p := ⟨b, 4, none⟩) (Or.inl (by simp)) (.int .i64 q)).setCell (p := ⟨b, 5, none⟩) (Or.inl (by simp)) (.bool true)
    refine ⟨rfl, HN.out (opD ⟨st, wa, 0, op, dn⟩) _ kk rfl rfl (by show (-1 : Int) ≤ 0; omega) (by show (0 : Int) ≤ 9223372036854775807; omega) (by have := HO.out; show op + 1 ≤ _; omega) (fun v0 v1 v2 o => ?_), kk⟩
    show Own _ b #[v0, v1, v2, .int .i64 0, .int .i64 ((op + 1 : Nat) : Int), .bool true] _
    rw [← HQ.out]
    exact (o.set 4 _).set 5 _
  · go_enter Try.func29, Try.ntmps29
    go_wp2_with fail
    go_ret
    have kk := (Kept.refl [b] w).setCell (p := ⟨b, 4, none⟩) (Or.inl (by simp)) (.int .i64 q)
    refine ⟨rfl, HN.out (opD ⟨st, wa, -1, op, dn⟩) _ kk rfl rfl (by show (-1 : Int) ≤ -1; omega) (by show (-1 : Int) ≤ 9223372036854775807; omega) (by have := HO.out; show op + 1 ≤ _; omega) (fun v0 v1 v2 o => ?_), kk⟩
    show Own _ b #[v0, v1, v2, .int .i64 (-1), .int .i64 ((op + 1 : Nat) : Int), .bool dn] _
    rw [← HQ.out]
    exact o.set 4 _
  · have hne : (fu == 0) = false := by rw [beq_eq_false_iff_ne]; omega
    have hdc : decide (fu = 0) = false := decide_eq_false (by omega)
    rw [hdc]
    go_enter Try.func29, Try.ntmps29
    go_wp2_with fail
    go_ret
    have kk := ((Kept.refl [b] w).setCell (p := ⟨b, 4, none⟩) (Or.inl (by simp)) (.int .i64 q)).setCell (p := ⟨b, 3, none⟩) (Or.inl (by simp)) (.int .i64 (fu - 1))
    have ef : (opD ⟨st, wa, fu, op, dn⟩).fuse = fu - 1 := by show (if 0 < fu then fu - 1 else fu) = _; rw [if_pos hp]
    have ed : (opD ⟨st, wa, fu, op, dn⟩).down = dn := by show (if fu = 0 then true else dn) = _; rw [if_neg (by omega)]
    refine ⟨rfl, HN.out (opD ⟨st, wa, fu, op, dn⟩) _ kk rfl rfl (by rw [ef]; omega) (by rw [ef]; omega) (by have := HO.out; show op + 1 ≤ _; omega) (fun v0 v1 v2 o => ?_), kk⟩
    rw [ef, ed]
    show Own _ b #[v0, v1, v2, .int .i64 (fu - 1), .int .i64 ((op + 1 : Nat) : Int), .bool dn] _
    rw [← HQ.out]
    exact (o.set 4 _).set 3 _
end Go.Proofs.Ytkhbobjfmedimaa
