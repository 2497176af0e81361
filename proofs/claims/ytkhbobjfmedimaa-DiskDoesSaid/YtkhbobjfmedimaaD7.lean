/- Walks of layer 9 (disk): Flush, Power, Fuse; of nobody's disk too. -/
import Derived.Test.YtkhbobjfmedimaaD6
namespace Go.Proofs.Ytkhbobjfmedimaa
open Go.RowKit Go.Maps
set_option linter.unusedVariables false
set_option linter.unusedSimpArgs false

theorem DKept.refl (b sb mb lo : Nat) (w : World) : DKept b sb mb lo w w := ⟨rfl, rfl, rfl, Nat.le_refl _, fun _ _ _ _ _ _ => rfl⟩
theorem DKept.trans {b sb mb lo : Nat} {a w w' : World} (h : DKept b sb mb lo a w) (k : DKept b sb mb lo w w') : DKept b sb mb lo a w' := by
  obtain ⟨h1, h2, h3, h4, h5⟩ := h
  obtain ⟨k1, k2, k3, k4, k5⟩ := k
  refine ⟨k1.trans h1, k2.trans h2, k3.trans h3, Nat.le_trans h4 k4, fun j hj e1 e2 e3 e4 => ?_⟩
  have := h5 j hj e1 e2 e3 e4
  rw [← this]
  exact k5 j (Nat.lt_of_lt_of_le hj h4) e1 e2 e3 (by rw [this]; exact e4)
theorem DKept.kept {S : List Nat} {b sb mb lo : Nat} {w w' : World} (h : Kept S w w') (hS : ∀ x ∈ S, x = b ∨ x = sb ∨ x = mb) : DKept b sb mb lo w w' :=
  DKept.of h (fun x hx => by
    rcases hS x hx with h | h | h
    · exact Or.inl h
    · exact Or.inr (Or.inl h)
    · exact Or.inr (Or.inr (Or.inl h)))
theorem dFlush_nil (w : World) : Calls Try.prog 10 #[.pointer none] w fun e w' => e = .returned (.int .i64 4) ∧ w = w' := by
  go_enter Try.func10, Try.ntmps10
  go_wp2_with fail
  refine (dReady_nil _).mono ?_; rintro e w' ⟨rfl, rfl⟩
  go_wp2_with fail
  go_ret
  exact ⟨rfl, rfl⟩
theorem dFlush_down (b sb mb lo : Nat) (d : DK) (w : World) (h : DiskAt w b sb mb lo d) (hd : d.down = true) : Calls Try.prog 10 #[.pointer (some ⟨b, 0, none⟩)] w fun e w' => e = .returned (.int .i64 90) ∧ w = w' := by
  have hr := dReady b sb mb lo d w h
  unfold readyOf at hr
  rw [hd] at hr
  simp only [if_true] at hr
  go_enter Try.func10, Try.ntmps10
  go_wp2_with fail
  refine hr.mono ?_; rintro e w' ⟨rfl, rfl⟩
  go_wp2_with fail
  go_ret
  exact ⟨rfl, rfl⟩
theorem dFlush_cut (b sb mb lo : Nat) (d : DK) (w : World) (h : DiskAt w b sb mb lo d) (hd : d.down = false) (hf : d.fuse = 0) (ho : d.ops < 100000) : Calls Try.prog 10 #[.pointer (some ⟨b, 0, none⟩)] w fun e w' => e = .returned (.int .i64 90) ∧ DiskAt w' b sb mb lo (opD d) ∧ DKept b sb mb lo w w' := by
  have hr := dReady b sb mb lo d w h
  have hop := dOperate b sb mb lo d w h ho
  unfold readyOf at hr
  rw [hd] at hr
  rw [decide_eq_true hf] at hop
  simp only [Bool.false_eq_true, if_false] at hr
  clear h hd hf
  go_enter Try.func10, Try.ntmps10
  go_wp2_with fail
  refine hr.mono ?_; rintro e w' ⟨rfl, rfl⟩
  go_wp2_with fail
  refine hop.mono ?_; rintro e w1 ⟨rfl, h1, k1⟩
  go_wp2_with fail
  go_ret
  exact ⟨rfl, h1, DKept.kept k1 (fun x hx => Or.inl (by simpa using hx))⟩
theorem dFlush (b sb mb lo : Nat) (d : DK) (w : World) (h : DiskAt w b sb mb lo d) (hd : d.down = false) (hf : d.fuse ≠ 0) (ho : d.ops < 100000) (hfine : ∀ x ∈ d.waits, x.1 < d.stand.length) (hwl : d.waits.length ≤ 10000) :
    Calls Try.prog 10 #[.pointer (some ⟨b, 0, none⟩)] w fun e w' => e = .returned (.int .i64 0) ∧ DiskAt w' b sb mb lo (settleD (opD d) (fun _ => true)) ∧ DKept b sb mb lo w w' := by
  have hr := dReady b sb mb lo d w h
  have hop := dOperate b sb mb lo d w h ho
  have hset := fun W (hW : DiskAt W b sb mb lo (opD d)) => dSettleAll b sb mb lo (opD d) W hW hfine hwl
  unfold readyOf at hr
  rw [hd] at hr
  rw [decide_eq_false hf] at hop
  simp only [Bool.false_eq_true, if_false] at hr
  clear h hd hf
  have HSET := Lib.hid hset
  clear hset
  go_enter Try.func10, Try.ntmps10
  go_wp2_with fail
  refine hr.mono ?_; rintro e w' ⟨rfl, rfl⟩
  go_wp2_with fail
  refine hop.mono ?_; rintro e w1 ⟨rfl, h1, k1⟩
  go_wp2_with fail
  refine (HSET.out _ h1).mono ?_; rintro e w2 ⟨rfl, h2, k2⟩
  go_wp2_with fail
  go_ret
  exact ⟨rfl, h2, (DKept.kept k1 (fun x hx => Or.inl (by simpa using hx))).trans k2⟩
theorem dPower_nil (v : Value) (w : World) : Calls Try.prog 12 #[.pointer none, v] w fun e w' => e = .returned (.tuple #[]) ∧ w = w' := by
  go_enter Try.func12, Try.ntmps12
  go_wp2_with fail
  refine bodyPost_ret (results_none rfl _ _ _) rfl ?_
  exact ⟨rfl, rfl⟩
theorem dChose (p : Option Addr) (n c : Nat) (w : World) : Calls Try.prog 34 #[.slice p n c] w fun e w' => e = .returned (.func (.func 48) #[] #[.pointer (some ⟨w.heap.size, 0, none⟩)]) ∧ w' = w.alloc (.cells #[.slice p n c] 23) := by
  go_enter Try.func34, Try.ntmps34
  go_wp2_with fail
  go_ret
  exact ⟨rfl, rfl⟩
theorem BoolsIn.shape {w : World} {v : Value} {l : List Bool} {lo hi : Nat} (h : BoolsIn w v l lo hi) : ∃ p c, v = .slice p l.length c := by
  rcases h with ⟨rfl, a, c, rfl⟩ | ⟨b, off, c, rfl, _⟩
  · exact ⟨a, c, rfl⟩
  · exact ⟨_, c, rfl⟩
theorem DiskAt.keep {S : List Nat} {w w' : World} {b sb mb lo : Nat} {d : DK} (h : DiskAt w b sb mb lo d) (k : Kept S w w') (hS : ∀ x ∈ S, x < lo ∧ x ≠ b ∧ x ≠ sb ∧ x ≠ mb) : DiskAt w' b sb mb lo d := by
  obtain ⟨wv, n, o, os, hwr, hm, hn, h2, h3, h4, h5, h6, r⟩ := h
  exact ⟨wv, n, k.own o (fun hx => (hS _ hx).2.1 rfl), k.own os (fun hx => (hS _ hx).2.2.1 rfl), ownsRow_kept hwr k (fun x hx => (hS x hx).1), hm.kept k (fun hx => (hS _ hx).2.2.2 rfl), hn, h2, h3, h4, h5, Nat.le_trans h6 k.size, r⟩
/-- the power goes, and comes back. -/
def powerD (d : DK) (keep : List Bool) : DK := ⟨sk d.stand d.waits (kept keep) d.waits.length, [], -1, d.ops, false⟩
set_option maxRecDepth 100000 in
theorem dPower (b sb mb lo : Nat) (d : DK) (v : Value) (keep : List Bool) (lo1 hi1 : Nat) (w : World) (h : DiskAt w b sb mb lo d) (hfine : ∀ x ∈ d.waits, x.1 < d.stand.length) (hwl : d.waits.length ≤ 10000) (hb : BoolsIn w v keep lo1 hi1) (hbs : sb < lo1 ∨ hi1 ≤ sb) (hkl : keep.length ≤ maxLen) :
    Calls Try.prog 12 #[.pointer (some ⟨b, 0, none⟩), v] w fun e w' => e = .returned (.tuple #[]) ∧ DiskAt w' b sb mb lo (powerD d keep) ∧ DKept b sb mb lo w w' := by
  obtain ⟨p, c, rfl⟩ := hb.shape
  have hA := h.keep ((Kept.refl [] w).alloc (.cells #[.slice p keep.length c] 23)) (fun x hx => by cases hx)
  have hbA := hb.kept ((Kept.refl [] w).alloc (.cells #[.slice p keep.length c] 23)) (fun x hx => by cases hx)
  have hsb : sb < w.heap.size := by obtain ⟨_, _, _, os, _⟩ := h; exact os.lt
  have hset := dSettleChosen b sb mb lo d (.slice p keep.length c) keep w.heap.size lo1 hi1 _ hA hfine hwl (Own.new w _ _) (by omega) hbA hbs hkl
  have hkA := (Kept.refl [] w).alloc (.cells #[.slice p keep.length c] 23)
  have HS := Lib.hid hset
  clear hset hbA hb h
  go_enter Try.func12, Try.ntmps12
  go_wp2_with fail
  refine (dChose _ _ _ _).mono ?_; rintro e w' ⟨rfl, rfl⟩
  go_wp2_with fail
  refine HS.out.mono ?_; rintro e w2 ⟨rfl, h2, k2⟩
  obtain ⟨p2, c2, y0, y1, y2, y3, y4, y5, _⟩ := h2.six
  have z : w2.frozen? ⟨b, 3, none⟩ = false ∧ w2.frozen? ⟨b, 5, none⟩ = false := by
    obtain ⟨_, _, o, _⟩ := h2; exact ⟨o.free 3, o.free 5⟩
  go_wp2_with fail
  go_end0
  have kk := ((Kept.refl [b] w2).setCell (p := ⟨b, 3, none⟩) (Or.inl (by simp)) (.int .i64 (-1))).setCell (p := ⟨b, 5, none⟩) (Or.inl (by simp)) (.bool false)
  have ho : (settleD d (kept keep)).ops ≤ 100000 := by obtain ⟨_, _, _, _, _, _, _, _, _, _, _, _, _, _, _, _, h11⟩ := h2; exact h11
  refine ⟨rfl, DiskAt.nums (d' := powerD d keep) h2 kk rfl rfl (by show (-1 : Int) ≤ -1; omega) (by show (-1 : Int) ≤ 9223372036854775807; omega) ho (fun v0 v1 v2 o => (o.set 3 _).set 5 _), ?_⟩
  exact ((DKept.kept hkA (fun x hx => by cases hx)).trans k2).trans (DKept.kept kk (fun x hx => Or.inl (by simpa using hx)))
def fuseD (d : DK) (n : Int) : DK := ⟨d.stand, d.waits, max n (-1), d.ops, d.down⟩
set_option maxRecDepth 100000 in
theorem dFuse (b sb mb lo : Nat) (d : DK) (n : Int) (w : World) (h : DiskAt w b sb mb lo d) (hn : n ≤ 9223372036854775807) :
    Calls Try.prog 24 #[.pointer (some ⟨b, 0, none⟩), .int .i64 n] w fun e w' => e = .returned (.tuple #[]) ∧ DiskAt w' b sb mb lo (fuseD d n) ∧ Kept [b] w w' := by
  obtain ⟨p2, c2, y0, y1, y2, y3, y4, y5, _, _, ho⟩ := h.six
  have z : w.frozen? ⟨b, 3, none⟩ = false := by obtain ⟨_, _, o, _⟩ := h; exact o.free 3
  have kk := (Kept.refl [b] w).setCell (p := ⟨b, 3, none⟩) (Or.inl (by simp)) (.int .i64 (max n (-1)))
  have hD := DiskAt.nums (d' := fuseD d n) h kk rfl rfl (by show (-1 : Int) ≤ max n (-1); omega) (by show max n (-1) ≤ (9223372036854775807 : Int); omega) ho (fun v0 v1 v2 o => o.set 3 _)
  have HD := Lib.hid hD
  clear hD h ho
  rcases (by omega : n < -1 ∨ n = -1 ∨ -1 < n) with h1 | h1 | h1
  · have em : max n (-1) = -1 := by omega
    have h2 : n ≤ -1 := by omega
    rw [em] at kk HD
    clear em
    go_enter Try.func24, Try.ntmps24
    go_wp2_with fail
    all_goals first
      | (exfalso; omega)
      | (go_end0; exact ⟨rfl, HD.out, kk⟩)
  · subst h1
    have em : max (-1 : Int) (-1) = -1 := by omega
    rw [em] at kk HD
    clear em
    go_enter Try.func24, Try.ntmps24
    go_wp2_with fail
    all_goals (go_end0; exact ⟨rfl, HD.out, kk⟩)
  · have em : max n (-1) = n := by omega
    have h2 : ¬ (n ≤ -1) := by omega
    rw [em] at kk HD
    clear em
    go_enter Try.func24, Try.ntmps24
    go_wp2_with fail
    all_goals first
      | (exfalso; omega)
      | (go_end0; exact ⟨rfl, HD.out, kk⟩)
end Go.Proofs.Ytkhbobjfmedimaa
