/- Layer 24 (catalog): crc.Open: the sum taken off a text. -/
import Derived.Test.YtakdnchmehmdhaaGreatG04
import Derived.Test.YtakdnchmehmdhaaGreatG19
import Derived.Test.YtakdnchmehmdhaaGreatG25
import Derived.Maps.AppendAt
namespace Go.Proofs.YtakdnchmehmdhaaGreat
open Go.RowKit
set_option linter.unusedVariables false
set_option linter.unusedSimpArgs false

/-- what is left of a sealed text. -/
def opnL (l : List UInt8) : Option (List UInt8) := if 4 ≤ l.length ∧ numL (crc (l.take (l.length - 4))) 4 = l.drop (l.length - 4) then some (l.take (l.length - 4)) else none
def COpenSays (l : List UInt8) (w : World) (e : Ending) (w' : World) : Prop :=
  ((∃ t, opnL l = some t ∧ e = .returned (.tuple #[.string (bs t), .int .i64 0])) ∨ (opnL l = none ∧ ∃ c : Int, (c == 0) = false ∧ e = .returned (.tuple #[.string (bs []), .int .i64 c]))) ∧ Kept [] w w'
theorem opnL_seal (a : List UInt8) : opnL (sealL a) = some a := by
  have h : (sealL a).length - 4 = a.length := by unfold sealL; rw [List.length_append, numL_len]; omega
  unfold opnL
  rw [h, if_pos]
  · unfold sealL; simp
  · unfold sealL; simp [numL_len]
theorem opnL_some {l t : List UInt8} (h : opnL l = some t) : l = sealL t := by
  unfold opnL at h
  split at h
  · rename_i hh
    injection h with h
    subst h
    unfold sealL
    rw [hh.2, List.take_append_drop]
  · cases h
set_option maxRecDepth 100000 in
set_option maxHeartbeats 4000000 in
theorem copen4 (a b : List UInt8) (w : World) (hb : b.length = 4) (hl : a.length ≤ 1000000) :
    Calls Tryz.prog 49 #[.string (bs (a ++ b))] w (COpenSays (a ++ b) w) := by
  have hz : (bs (a ++ b)).size = a.length + 4 := by rw [bs_size, List.length_append, hb]
  have ha1 : (a.length : Int) ≤ 1000000 := by omega
  have hs : ∀ W, Calls Tryz.prog 76 #[.string (bs a)] W fun e w' => e = .returned (.int .u32 (crc a)) ∧ W = w' := fun W => by
    have := csum (bs a) W (by rw [bs_size]; unfold maxLen; omega)
    rwa [bs_data] at this
  have hc := crc_lt a
  have HS := Lib.hid hs
  have HU := Lib.hid (fun W => packU32 (crc a) W hc)
  have ho : opnL (a ++ b) = if numL (crc a) 4 = b then some a else none := by
    have h4 : (a ++ b).length - 4 = a.length := by rw [List.length_append, hb]; omega
    unfold opnL
    rw [h4, List.take_left, List.drop_left]
    have h5 : 4 ≤ (a ++ b).length := by rw [List.length_append, hb]; omega
    by_cases h6 : numL (crc a) 4 = b
    · rw [if_pos ⟨h5, h6⟩, if_pos h6]
    · rw [if_neg (fun h => h6 h.2), if_neg h6]
  have E1 : Hid ((bs (a ++ b)).extract 0 a.length = bs a) := Lib.hid (by rw [bs_extract]; simp)
  have E2 : Hid ((bs (a ++ b)).extract a.length (a.length + 4) = bs b) := Lib.hid (by rw [bs_extract, List.drop_left, Nat.add_sub_cancel_left, ← hb, List.take_length])
  have HO := Lib.hid ho
  generalize crc a = c at *
  unfold COpenSays
  clear ho hs hc
  by_cases hq : numL c 4 = b
  · have HQ : Hid (bs (numL c 4) = bs b) := Lib.hid (by rw [hq])
    have HR : Hid (opnL (a ++ b) = some a) := Lib.hid (by rw [HO.out, if_pos hq])
    clear hq HO
    generalize hL : bs (a ++ b) = L at *
    clear hL
    go_enter Tryz.func49, Tryz.ntmps49
    go_wp2_with fail
    refine wp_region_held_drew (S := (fun W => True)) (by kernel_rfl) (by trivial) (fun hHeld => ?_)
    refine take_at (i := 0) (d := some 10) (v := ?_) rfl rfl (by kernel_rfl) (by kernel_rfl) (by kernel_rfl) (fun _ _ _ h => h) (Or.inl ⟨by rfl, ?_⟩) (by assumption) ?_
    rotate_left
    · (intro w hSw; (try dsimp only at hSw); go_simp; try with_reducible rfl)
    try simp only [Act.put, List.setIfInBounds_toArray, List.set_cons_zero, List.set_cons_succ]
    refine take_at (i := 1) (d := some 11) (v := ?_) rfl rfl (by kernel_rfl) (by kernel_rfl) (by kernel_rfl) (fun _ _ _ h => h) (Or.inl ⟨by rfl, ?_⟩) (by assumption) ?_
    rotate_left
    · (intro w hSw; (try dsimp only at hSw); go_simp; try with_reducible rfl)
    try simp only [Act.put, List.setIfInBounds_toArray, List.set_cons_zero, List.set_cons_succ]
    refine take_at (i := 2) (d := some 12) (v := .string (bs a)) rfl rfl (by kernel_rfl) (by kernel_rfl) (by kernel_rfl) (fun _ _ _ h => h) (Or.inl ⟨by rfl, ?_⟩) (by assumption) ?_
    · (intro w hSw; go_simp; rw [E1.out, if_pos (by omega)])
    try simp only [Act.put, List.setIfInBounds_toArray, List.set_cons_zero, List.set_cons_succ]
    refine take_at (i := 5) (d := some 15) (v := ?_) rfl rfl (by kernel_rfl) (by kernel_rfl) (by kernel_rfl) (fun _ _ _ h => h) (Or.inl ⟨by rfl, ?_⟩) (by assumption) ?_
    rotate_left
    · (intro w hSw; (try dsimp only at hSw); go_simp; try with_reducible rfl)
    try simp only [Act.put, List.setIfInBounds_toArray, List.set_cons_zero, List.set_cons_succ]
    refine take_at (i := 6) (d := some 16) (v := ?_) rfl rfl (by kernel_rfl) (by kernel_rfl) (by kernel_rfl) (fun _ _ _ h => h) (Or.inl ⟨by rfl, ?_⟩) (by assumption) ?_
    rotate_left
    · (intro w hSw; (try dsimp only at hSw); go_simp; try with_reducible rfl)
    try simp only [Act.put, List.setIfInBounds_toArray, List.set_cons_zero, List.set_cons_succ]
    refine take_at (i := 7) (d := some 17) (v := .string (bs b)) rfl rfl (by kernel_rfl) (by kernel_rfl) (by kernel_rfl) (fun _ _ _ h => h) (Or.inl ⟨by rfl, ?_⟩) (by assumption) ?_
    · (intro w hSw; go_simp; rw [E2.out, if_pos (by omega)])
    try simp only [Act.put, List.setIfInBounds_toArray, List.set_cons_zero, List.set_cons_succ]
    refine wpAnyH_ready (rs := [3]) (by kernel_rfl) (by simp) ?_
    refine (AllReadyH.cons rfl (fun K hK => ?_) AllReadyH.nil)
    go_simp
    ((with_reducible refine (HS.out _).mono ?_)); rintro e w2 ⟨rfl, rfl⟩
    go_wp2_with fail
    refine hK.out _ _ ?_ (fun hHeld => ?_)
    · trivial
    clear hK K
    try simp only [Act.put, List.setIfInBounds_toArray, List.set_cons_zero, List.set_cons_succ]
    refine wpAnyH_ready (rs := [4]) (by kernel_rfl) (by simp) ?_
    refine (AllReadyH.cons rfl (fun K hK => ?_) AllReadyH.nil)
    go_simp
    ((with_reducible refine (HU.out _).mono ?_)); rintro e w3 ⟨rfl, k3⟩
    go_wp2_with fail
    refine hK.out _ _ ?_ (fun hHeld => ?_)
    · trivial
    clear hK K
    try simp only [Act.put, List.setIfInBounds_toArray, List.set_cons_zero, List.set_cons_succ]
    refine take_at (i := 8) (d := some 18) (v := .bool false) rfl rfl (by kernel_rfl) (by kernel_rfl) (by kernel_rfl) (fun _ _ _ h => h) (Or.inl ⟨by rfl, ?_⟩) (by assumption) ?_
    · (intro w hSw; go_simp; exact congrArg ByteArray.toList HQ.out)
    try simp only [Act.put, List.setIfInBounds_toArray, List.set_cons_zero, List.set_cons_succ]
    refine wpAnyH_done (by kernel_rfl) ?_ _
    go_wp2_with fail
    rw [E1.out]
    go_ret2
    exact ⟨Or.inl ⟨_, HR.out, rfl⟩, ((Kept.refl _ _).drew.trans k3)⟩
  · have HQ : Hid (¬ (bs (numL c 4)).toList = (bs b).toList) := Lib.hid (fun h => hq (by
      have h2 : ∀ l : List UInt8, (bs l).toList = l := fun l => by simp [bs, ByteArray.toList_eq]
      rwa [h2, h2] at h))
    have HR : Hid (opnL (a ++ b) = none) := Lib.hid (by rw [HO.out, if_neg hq])
    clear hq HO
    generalize hL : bs (a ++ b) = L at *
    clear hL
    go_enter Tryz.func49, Tryz.ntmps49
    go_wp2_with fail
    refine wp_region_held_drew (S := (fun W => True)) (by kernel_rfl) (by trivial) (fun hHeld => ?_)
    refine take_at (i := 0) (d := some 10) (v := ?_) rfl rfl (by kernel_rfl) (by kernel_rfl) (by kernel_rfl) (fun _ _ _ h => h) (Or.inl ⟨by rfl, ?_⟩) (by assumption) ?_
    rotate_left
    · (intro w hSw; (try dsimp only at hSw); go_simp; try with_reducible rfl)
    try simp only [Act.put, List.setIfInBounds_toArray, List.set_cons_zero, List.set_cons_succ]
    refine take_at (i := 1) (d := some 11) (v := ?_) rfl rfl (by kernel_rfl) (by kernel_rfl) (by kernel_rfl) (fun _ _ _ h => h) (Or.inl ⟨by rfl, ?_⟩) (by assumption) ?_
    rotate_left
    · (intro w hSw; (try dsimp only at hSw); go_simp; try with_reducible rfl)
    try simp only [Act.put, List.setIfInBounds_toArray, List.set_cons_zero, List.set_cons_succ]
    refine take_at (i := 2) (d := some 12) (v := .string (bs a)) rfl rfl (by kernel_rfl) (by kernel_rfl) (by kernel_rfl) (fun _ _ _ h => h) (Or.inl ⟨by rfl, ?_⟩) (by assumption) ?_
    · (intro w hSw; go_simp; rw [E1.out, if_pos (by omega)])
    try simp only [Act.put, List.setIfInBounds_toArray, List.set_cons_zero, List.set_cons_succ]
    refine take_at (i := 5) (d := some 15) (v := ?_) rfl rfl (by kernel_rfl) (by kernel_rfl) (by kernel_rfl) (fun _ _ _ h => h) (Or.inl ⟨by rfl, ?_⟩) (by assumption) ?_
    rotate_left
    · (intro w hSw; (try dsimp only at hSw); go_simp; try with_reducible rfl)
    try simp only [Act.put, List.setIfInBounds_toArray, List.set_cons_zero, List.set_cons_succ]
    refine take_at (i := 6) (d := some 16) (v := ?_) rfl rfl (by kernel_rfl) (by kernel_rfl) (by kernel_rfl) (fun _ _ _ h => h) (Or.inl ⟨by rfl, ?_⟩) (by assumption) ?_
    rotate_left
    · (intro w hSw; (try dsimp only at hSw); go_simp; try with_reducible rfl)
    try simp only [Act.put, List.setIfInBounds_toArray, List.set_cons_zero, List.set_cons_succ]
    refine take_at (i := 7) (d := some 17) (v := .string (bs b)) rfl rfl (by kernel_rfl) (by kernel_rfl) (by kernel_rfl) (fun _ _ _ h => h) (Or.inl ⟨by rfl, ?_⟩) (by assumption) ?_
    · (intro w hSw; go_simp; rw [E2.out, if_pos (by omega)])
    try simp only [Act.put, List.setIfInBounds_toArray, List.set_cons_zero, List.set_cons_succ]
    refine wpAnyH_ready (rs := [3]) (by kernel_rfl) (by simp) ?_
    refine (AllReadyH.cons rfl (fun K hK => ?_) AllReadyH.nil)
    go_simp
    ((with_reducible refine (HS.out _).mono ?_)); rintro e w2 ⟨rfl, rfl⟩
    go_wp2_with fail
    refine hK.out _ _ ?_ (fun hHeld => ?_)
    · trivial
    clear hK K
    try simp only [Act.put, List.setIfInBounds_toArray, List.set_cons_zero, List.set_cons_succ]
    refine wpAnyH_ready (rs := [4]) (by kernel_rfl) (by simp) ?_
    refine (AllReadyH.cons rfl (fun K hK => ?_) AllReadyH.nil)
    go_simp
    ((with_reducible refine (HU.out _).mono ?_)); rintro e w3 ⟨rfl, k3⟩
    go_wp2_with fail
    refine hK.out _ _ ?_ (fun hHeld => ?_)
    · trivial
    clear hK K
    try simp only [Act.put, List.setIfInBounds_toArray, List.set_cons_zero, List.set_cons_succ]
    refine take_at (i := 8) (d := some 18) (v := .bool true) rfl rfl (by kernel_rfl) (by kernel_rfl) (by kernel_rfl) (fun _ _ _ h => h) (Or.inl ⟨by rfl, ?_⟩) (by assumption) ?_
    · (intro w hSw; go_simp; exact HQ.out)
    try simp only [Act.put, List.setIfInBounds_toArray, List.set_cons_zero, List.set_cons_succ]
    refine wpAnyH_done (by kernel_rfl) ?_ _
    go_wp2_with fail
    go_ret2
    exact ⟨Or.inr ⟨HR.out, 110, by decide, rfl⟩, ((Kept.refl _ _).drew.trans k3)⟩
set_option maxRecDepth 100000 in
set_option maxHeartbeats 4000000 in
theorem copen (l : List UInt8) (w : World) (hl : l.length ≤ 1000000) :
    Calls Tryz.prog 49 #[.string (bs l)] w (COpenSays l w) := by
  by_cases h4 : 4 ≤ l.length
  · have h := copen4 (l.take (l.length - 4)) (l.drop (l.length - 4)) w (by rw [List.length_drop]; omega) (by rw [List.length_take]; omega)
    rwa [List.take_append_drop] at h
  · have hz : (bs l).size = l.length := bs_size l
    have h1 : (l.length : Int) < 4 := by omega
    have HR : Hid (opnL l = none) := Lib.hid (by unfold opnL; rw [if_neg (fun h => h4 h.1)])
    generalize bs l = L at *
    unfold COpenSays
    go_enter Tryz.func49, Tryz.ntmps49
    go_wp2_with fail
    go_ret2
    exact ⟨Or.inr ⟨HR.out, 7, by decide, rfl⟩, Kept.refl _ _⟩
theorem row_cells {w : World} {base : Nat} {e : TypeId} {size n g : Nat} {v : Value} {xs : List Value} (h : w.ownsRow base e size v n xs) (hg : v.ownBlock = some g) : ∃ cur, w.heap[g]? = some (.cells cur e (0, 0)) := by
  rcases h.2 with ⟨rfl, _⟩ | ⟨g', cap, cur, rfl, _, hh, _⟩
  · simp [Value.ownBlock] at hg
  · have e1 : g' = g := by simpa [Value.ownBlock] using hg
    subst e1
    exact ⟨cur, hh⟩
def Apart (u v : Value) : Prop := ∀ g, u.ownBlock = some g → v.ownBlock ≠ some g
theorem Apart.symm {u v : Value} (h : Apart u v) : Apart v u := fun g h1 h2 => h g h2 h1
theorem rows_apart {w : World} {base base' : Nat} {e e' : TypeId} {s s' n n' : Nat} {u v : Value} {xs ys : List Value} (h : w.ownsRow base e s u n xs) (h' : w.ownsRow base' e' s' v n' ys) (hne : e ≠ e') : Apart u v := fun g h1 h2 => by
  obtain ⟨c1, q1⟩ := row_cells h h1
  obtain ⟨c2, q2⟩ := row_cells h' h2
  rw [q1] at q2
  injection q2 with q2
  injection q2 with _ ht
  exact hne ht
theorem row_grown {w wa : World} {base : Nat} {e : TypeId} {size n : Nat} {u v : Value} {xs : List Value} (h : w.ownsRow base e size v n xs) (hg : w.grownBy wa u.ownBlock) (ha : Apart v u) : wa.ownsRow base e size v n xs := by
  have hlt := World.ownsRow.lt h
  obtain ⟨h1, h2⟩ := h
  refine ⟨h1, ?_⟩
  rcases h2 with h2 | ⟨g, cap, cur, rfl, hb, hh, r⟩
  · exact Or.inl h2
  · exact Or.inr ⟨g, cap, cur, rfl, hb, (hg.block g (hlt g rfl).2 (fun he => ha g rfl he.symm)).trans hh, r⟩
def OwnItem (base : Nat) (w : World) (x : JItem × Value) : Prop := w.ownsRow base 48 2 x.2 x.1.runs.length (rcells x.1.runs) ∧ x.1.fits ∧ ∀ r ∈ x.1.runs, WfRun r
theorem OwnItem.ok {base : Nat} {w : World} {x : JItem × Value} (h : OwnItem base w x) : ItemOk w x := ⟨(RunsIn.of_own h.1).upto, h.2.1, h.2.2⟩
theorem OwnItem.kept0 {base : Nat} {w w' : World} {x : JItem × Value} (h : OwnItem base w x) (k : Kept [] w w') : OwnItem base w' x := ⟨ownsRow_kept h.1 k (by simp), h.2⟩
structure Row3 (base : Nat) (w : World) (va vb vc : Value) (xs ys zs : List (JItem × Value)) : Prop where
  ra : w.ownsRow base 58 4 va xs.length (icells xs)
  rb : w.ownsRow base 58 4 vb ys.length (icells ys)
  rc : w.ownsRow base 58 4 vc zs.length (icells zs)
  ia : ∀ x ∈ xs, OwnItem base w x
  ib : ∀ x ∈ ys, OwnItem base w x
  ic : ∀ x ∈ zs, OwnItem base w x
  ab : Apart va vb
  ac : Apart va vc
  bc : Apart vb vc
theorem Row3.rot {base : Nat} {w : World} {va vb vc : Value} {xs ys zs : List (JItem × Value)} (h : Row3 base w va vb vc xs ys zs) : Row3 base w vb vc va ys zs xs :=
  ⟨h.rb, h.rc, h.ra, h.ib, h.ic, h.ia, h.bc, h.ab.symm, h.ac.symm⟩
theorem Row3.kept0 {base : Nat} {w w' : World} {va vb vc : Value} {xs ys zs : List (JItem × Value)} (h : Row3 base w va vb vc xs ys zs) (k : Kept [] w w') : Row3 base w' va vb vc xs ys zs :=
  ⟨ownsRow_kept h.ra k (by simp), ownsRow_kept h.rb k (by simp), ownsRow_kept h.rc k (by simp), fun x hx => (h.ia x hx).kept0 k, fun x hx => (h.ib x hx).kept0 k, fun x hx => (h.ic x hx).kept0 k, h.ab, h.ac, h.bc⟩
theorem Row3.set {base : Nat} {w : World} {va vb vc : Value} {xs ys zs : List (JItem × Value)} (h : Row3 base w va vb vc xs ys zs) {g : Nat} {cs : Array Value} (o : Own w g cs 25) (j : Nat) (u : Value) : Row3 base (w.setCell ⟨g, j, none⟩ u) va vb vc xs ys zs :=
  have hit : ∀ x, OwnItem base w x → OwnItem base (w.setCell ⟨g, j, none⟩ u) x := fun x hx => ⟨ownsRow_other hx.1 (own_row_ne hx.1 o (by decide)) u, hx.2⟩
  ⟨ownsRow_other h.ra (own_row_ne h.ra o (by decide)) u, ownsRow_other h.rb (own_row_ne h.rb o (by decide)) u, ownsRow_other h.rc (own_row_ne h.rc o (by decide)) u, fun x hx => hit x (h.ia x hx), fun x hx => hit x (h.ib x hx), fun x hx => hit x (h.ic x hx), h.ab, h.ac, h.bc⟩
theorem Row3.add {base : Nat} {w wa : World} {va va' vb vc : Value} {xs ys zs : List (JItem × Value)} {x : JItem × Value} (h : Row3 base w va vb vc xs ys zs) (hx : OwnItem base w x) (hg : w.grownBy wa va.ownBlock)
    (hr : wa.ownsRow base 58 4 va' (xs.length + 1) (icells xs ++ vcells x.1 x.2)) (hb : va'.ownBlock = va.ownBlock ∨ va'.ownBlock = some w.heap.size) : Row3 base wa va' vb vc (xs ++ [x]) ys zs := by
  have hit : ∀ y, OwnItem base w y → OwnItem base wa y := fun y hy => ⟨row_grown hy.1 hg (rows_apart hy.1 h.ra (by decide)), hy.2⟩
  have hap : ∀ {v : Value} {n : Nat} {ws : List Value}, w.ownsRow base 58 4 v n ws → Apart va v → Apart va' v := fun hv ha g h1 h2 => by
    rcases hb with hb | hb
    · exact ha g (by rw [← hb]; exact h1) h2
    · rw [hb] at h1
      injection h1 with h1
      have := (World.ownsRow.lt hv g h2).2
      omega
  refine ⟨?_, row_grown h.rb hg h.ab.symm, row_grown h.rc hg h.ac.symm, ?_, fun y hy => hit y (h.ib y hy), fun y hy => hit y (h.ic y hy), hap h.rb h.ab, hap h.rc h.ac, h.bc⟩
  · rw [icells_append, List.length_append]
    exact hr
  · intro y hy
    rcases List.mem_append.1 hy with hy | hy
    · exact hit y (h.ia y hy)
    · have : y = x := by simpa using hy
      subst this
      exact hit _ hx
theorem Row3.in1 {base : Nat} {w : World} {va vb vc : Value} {xs ys zs : List (JItem × Value)} (h : Row3 base w va vb vc xs ys zs) : ItemsIn w va (xs.map (·.1)) := ItemsIn.of_own h.ra (fun x hx => (h.ia x hx).ok)
theorem Row3.nil (base : Nat) (w : World) : Row3 base w (.slice none 0 0) (.slice none 0 0) (.slice none 0 0) [] [] [] :=
  have h : Apart (.slice none 0 0) (.slice none 0 0) := fun g hg => by simp [Value.ownBlock] at hg
  ⟨World.ownsRow_nil _ _ _ _, World.ownsRow_nil _ _ _ _, World.ownsRow_nil _ _ _ _, fun x hx => (by cases hx), fun x hx => (by cases hx), fun x hx => (by cases hx), h, h, h⟩
/-- a catalog that is built in a box behind the world w1: its rows begin at w1. -/
def Grows (w1 w : World) (bx : Nat) (nb nm : Int) (A B C : List JItem) : Prop :=
  ∃ va vb vc xs ys zs, Own w bx #[.int .u32 nb, .int .u32 nm, va, vb, vc] 25 ∧ Row3 w1.heap.size w va vb vc xs ys zs ∧ xs.map (·.1) = A ∧ ys.map (·.1) = B ∧ zs.map (·.1) = C ∧ Kept [bx] w1 w
end Go.Proofs.YtakdnchmehmdhaaGreat
