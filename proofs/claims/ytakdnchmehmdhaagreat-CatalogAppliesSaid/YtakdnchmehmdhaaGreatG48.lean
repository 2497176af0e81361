/- Layer 30 (catalog): the document's without. -/
import Derived.Test.YtakdnchmehmdhaaGreatG07
import Derived.Test.YtakdnchmehmdhaaGreatG08
import Derived.Test.YtakdnchmehmdhaaGreatG09
import Derived.Test.YtakdnchmehmdhaaGreatG13
import Derived.Test.YtakdnchmehmdhaaGreatG24
import Derived.Test.YtakdnchmehmdhaaGreatG26
import Derived.IntWalk
import Derived.BigQuiet
namespace Go.Proofs.YtakdnchmehmdhaaGreat
open Go.RowKit
set_option linter.unusedVariables false
set_option linter.unusedSimpArgs false

set_option maxRecDepth 100000 in
set_option maxHeartbeats 4000000 in
theorem qwithout {S : Nat → Prop} (v : Value) (l : List JItem) (i : Nat) (w : World) (h : ItemsOff S w v l) (hS : ∀ x, S x → x < w.heap.size) (hi : i < l.length) (hl : l.length ≤ 100000) :
    Calls Tryz.prog 128 #[v, .int .i64 i] w (GivesI S (delI l i) w) := by
  obtain ⟨i0, q0, q1, q2, q3⟩ := infoItem
  obtain ⟨vs, hvs, hraw, hok, _⟩ := h
  have hlv : vs.length = l.length := by rw [← hvs, List.length_map]
  rw [← hlv] at hi hl
  obtain ⟨p, c, rfl⟩ := hraw.shape
  obtain ⟨b, off, rfl, hcell, hb, hnc, hcm⟩ := hraw.at_ (by omega)
  have HRAW := Lib.hid hraw
  have j1 : (i : Int) < vs.length := by omega
  have j2 : (vs.length : Int) ≤ 100000 := by omega
  have j3 : (vs.length : Int) ≤ c := by omega
  have j4 : (i : Int) + 1 ≤ vs.length := by omega
  have j5 : (c : Int) ≤ 9223372036854775807 := by unfold maxLen at hcm; omega
  have j6 : i ≤ c := by omega
  have WR : Hid (IntKind.i64.wrap ((i : Int) + 1) = (i : Int) + 1) := Lib.hid (IntWalk.i64_in _ (by omega))
  have hlen := icells_len vs
  have hone := icells_one (fun x hx => (hok x hx).1.slv)
  obtain ⟨A2, hA2, hN2⟩ : ∃ A2 : Addr, (if c = i + 1 then some (⟨b, off, none⟩ : Addr) else some ⟨b, off + (i + 1) * 4, none⟩) = some A2 ∧ ∀ W, Kept [] w W → ∀ j u, ((icells vs).drop ((i + 1) * 4))[j]? = some u → W.cell? (A2.add j) = some u := by
    by_cases hce : c = i + 1
    · refine ⟨_, if_pos hce, fun W k j u hj => ?_⟩
      rw [List.drop_eq_nil_of_le (by rw [hlen]; omega)] at hj
      simp at hj
    · refine ⟨_, if_neg hce, fun W k j u hj => ?_⟩
      rw [List.getElem?_drop] at hj
      rw [Go.WideShapes.add_plain, Nat.add_assoc]
      exact (k.cell (by exact hb) (by simp)).trans (hcell _ u hj)
  have HA2 := Lib.hid hA2
  have HN1 : Hid (((icells vs).take (i * 4)).length = i * 4 ∧ (∀ W, Kept [] w W → ∀ j u, ((icells vs).take (i * 4))[j]? = some u → W.cell? ((⟨b, off, none⟩ : Addr).add j) = some u) ∧ ∀ u ∈ (icells vs).take (i * 4), u.oneCell' = true) := Lib.hid ⟨by rw [List.length_take, hlen]; omega, fun W k j u hj => by
    have hj' := (List.getElem?_eq_some_iff.1 hj).1
    rw [List.length_take] at hj'
    rw [List.getElem?_take_of_lt (by omega)] at hj
    rw [Go.WideShapes.add_plain]
    exact (k.cell (by exact hb) (by simp)).trans (hcell _ u hj), fun u hu => hone u (List.mem_of_mem_take hu)⟩
  have HN2 : Hid (((icells vs).drop ((i + 1) * 4)).length = (vs.length - (i + 1)) * 4 ∧ (∀ W, Kept [] w W → ∀ j u, ((icells vs).drop ((i + 1) * 4))[j]? = some u → W.cell? (A2.add j) = some u) ∧ ∀ u ∈ (icells vs).drop ((i + 1) * 4), u.oneCell' = true) := Lib.hid ⟨by rw [List.length_drop, hlen]; omega, hN2, fun u hu => hone u (List.mem_of_mem_drop hu)⟩
  have HEND : Hid (∀ w' v', w'.ownsRow w.heap.size 58 4 v' (vs.length - 1) (([] ++ (icells vs).take (i * 4)) ++ (icells vs).drop ((i + 1) * 4)) → Kept [] w w' → ItemsOff S w' v' (delI l i)) := Lib.hid (fun w' v' ho k => by
    rw [List.nil_append] at ho
    rw [← hvs]
    exact ItemsIn.del_in hi ho hS hok k)
  clear hlen hone hA2 hN2
  have HVS := Lib.hid hvs
  have HOK := Lib.hid hok
  have HB := Lib.hid (And.intro hi (And.intro hl hnc))
  clear hraw hcell hok hvs hlv hi hl hnc hcm hb
  generalize hVN : vs.length = vn at *
  unfold GivesI
  go_enter Tryz.func128, Tryz.ntmps128
  go_wp2_with fail
  refine wp_region_held_drew (S := (fun W => True)) (by kernel_rfl) (by trivial) (fun hHeld => ?_)
  refine take_at (i := 1) (d := some 6) (v := ?_) rfl rfl (by kernel_rfl) (by kernel_rfl) (by kernel_rfl) (fun _ _ _ h => h) (Or.inl ⟨by rfl, ?_⟩) (by assumption) ?_
  rotate_left
  · (intro w hSw; (try dsimp only at hSw); go_simp; try with_reducible rfl)
  try simp only [Act.put, List.setIfInBounds_toArray, List.set_cons_zero, List.set_cons_succ]
  refine take_at (i := 2) (d := some 7) (v := ?_) rfl rfl (by kernel_rfl) (by kernel_rfl) (by kernel_rfl) (fun _ _ _ h => h) (Or.inl ⟨by rfl, ?_⟩) (by assumption) ?_
  rotate_left
  · (intro w hSw; (try dsimp only at hSw); go_simp; try with_reducible rfl)
  try simp only [Act.put, List.setIfInBounds_toArray, List.set_cons_zero, List.set_cons_succ]
  refine take_at (i := 3) (d := some 8) (v := ?_) rfl rfl (by kernel_rfl) (by kernel_rfl) (by kernel_rfl) (fun _ _ _ h => h) (Or.inl ⟨by rfl, ?_⟩) (by assumption) ?_
  rotate_left
  · (intro w hSw; (try dsimp only at hSw); go_simp; try with_reducible rfl)
  try simp only [Act.put, List.setIfInBounds_toArray, List.set_cons_zero, List.set_cons_succ]
  refine take_at (i := 5) (d := some 10) (v := ?_) rfl rfl (by kernel_rfl) (by kernel_rfl) (by kernel_rfl) (fun _ _ _ h => h) (Or.inl ⟨by rfl, ?_⟩) (by assumption) ?_
  rotate_left
  · (intro w hSw; (try dsimp only at hSw); go_simp; try with_reducible rfl)
  try simp only [Act.put, List.setIfInBounds_toArray, List.set_cons_zero, List.set_cons_succ]
  refine take_at (i := 6) (d := some 11) (v := ?_) rfl rfl (by kernel_rfl) (by kernel_rfl) (by kernel_rfl) (fun _ _ _ h => h) (Or.inl ⟨by rfl, ?_⟩) (by assumption) ?_
  rotate_left
  · (intro w hSw; (try dsimp only at hSw); go_simp; try with_reducible rfl)
  try simp only [Act.put, List.setIfInBounds_toArray, List.set_cons_zero, List.set_cons_succ]
  refine take_at (i := 7) (d := some 12) (v := .int .i64 ((i : Int) + 1)) rfl rfl (by kernel_rfl) (by kernel_rfl) (by kernel_rfl) (fun _ _ _ h => h) (Or.inl ⟨by rfl, ?_⟩) (by assumption) ?_
  · (intro w hSw; go_simp; (try rw [WR.out]))
  try simp only [Act.put, List.setIfInBounds_toArray, List.set_cons_zero, List.set_cons_succ]
  refine take_at (i := 8) (d := some 13) (v := .slice (some A2) (vn - (i + 1)) (c - (i + 1))) rfl rfl (by kernel_rfl) (by kernel_rfl) (by kernel_rfl) (fun _ _ _ h => h) (Or.inl ⟨by rfl, ?_⟩) (by assumption) ?_
  · (intro w hSw; go_simp; rw [if_pos (by omega), HA2.out])
  try simp only [Act.put, List.setIfInBounds_toArray, List.set_cons_zero, List.set_cons_succ]
  refine wpAnyH_ready (rs := [0]) (by kernel_rfl) (by simp) ?_
  refine (AllReadyH.cons rfl (fun K hK => ?_) AllReadyH.nil)
  go_simp
  refine hK.out _ _ ?_ (fun hHeld => ?_)
  · trivial
  clear hK K
  try simp only [Act.put, List.setIfInBounds_toArray, List.set_cons_zero, List.set_cons_succ]
  have KA : Kept [] w (w.drew.alloc (.cells #[] 58)) := (Kept.refl [] w).drew.alloc _
  have E0 : (w.drew.alloc (.cells #[] 58)).ownsRow w.heap.size 58 4 (.slice (some ⟨w.heap.size, 0, none⟩) 0 0) 0 [] := ownsRow_empty w.drew w.heap.size 58 4 (Nat.le_refl _)
  obtain ⟨v5, w5, hrun5, hrow5, hgr5, _, _⟩ := run_append_own_at (P := Tryz.prog) (w.drew.alloc (.cells #[] 58)) w.heap.size 23 23 58 i0 _ 4 56 Tryz.underlying23 q0 q1 q2 q3 rfl (by decide) _ 0 ([]) E0 ⟨b, off, none⟩ i c ((icells vs).take (i * 4)) HN1.out.1 (HN1.out.2.1 _ KA) HN1.out.2.2 (by have := HB.out; unfold maxLen; omega) (by have := HB.out; omega) KA.size
  have K5 := Lib.hid (KA.grown hgr5 (fun q hq => Or.inr (World.ownsRow.lt E0 q hq).1))
  have ROW5 := Lib.hid hrow5
  have HRUN5 := Lib.hid hrun5
  clear hgr5 hrow5 hrun5 E0
  refine wpAnyH_ready (rs := [4]) (by kernel_rfl) (by simp) ?_
  refine (AllReadyH.cons rfl (fun K hK => ?_) AllReadyH.nil)
  refine step_append_runJ rfl _ _ 23 23 rfl _ _ (by simp [Act.eval, Act.put]) (by simp [Act.eval, Act.put]) HRUN5.out ?_
  refine hK.out _ _ ?_ (fun hHeld => ?_)
  · trivial
  clear hK K
  try simp only [Act.put, List.setIfInBounds_toArray, List.set_cons_zero, List.set_cons_succ]
  obtain ⟨v6, w6, hrun6, hrow6, hgr6, _, _⟩ := run_append_own_at (P := Tryz.prog) (w5) w.heap.size 23 23 58 i0 _ 4 56 Tryz.underlying23 q0 q1 q2 q3 rfl (by decide) _ (0 + i) ([] ++ (icells vs).take (i * 4)) ROW5.out A2 (vn - (i + 1)) (c - (i + 1)) ((icells vs).drop ((i + 1) * 4)) HN2.out.1 (HN2.out.2.1 _ K5.out) HN2.out.2.2 (by have := HB.out; unfold maxLen; omega) (by have := HB.out; omega) K5.out.size
  have hNN : 0 + i + (vn - (i + 1)) = vn - 1 := by have := HB.out; omega
  rw [hNN] at hrow6
  clear hNN
  have K6 := Lib.hid (K5.out.grown hgr6 (fun q hq => Or.inr (World.ownsRow.lt ROW5.out q hq).1))
  have ROW6 := Lib.hid hrow6
  have HRUN6 := Lib.hid hrun6
  obtain ⟨p6, c6, rfl⟩ := own_shape hrow6
  clear hgr6 hrow6 hrun6
  refine wpAnyH_ready (rs := [9]) (by kernel_rfl) (by simp) ?_
  refine (AllReadyH.cons rfl (fun K hK => ?_) AllReadyH.nil)
  refine step_append_runJ rfl _ _ 23 23 rfl _ _ (by simp [Act.eval, Act.put]) (by simp [Act.eval, Act.put]) HRUN6.out ?_
  refine hK.out _ _ ?_ (fun hHeld => ?_)
  · trivial
  clear hK K
  try simp only [Act.put, List.setIfInBounds_toArray, List.set_cons_zero, List.set_cons_succ]
  simp only [List.getElem_toArray, List.getElem_cons_succ, List.getElem_cons_zero, Act.put, List.setIfInBounds_toArray, List.set_cons_zero, List.set_cons_succ]
  refine take_at (i := 10) (d := some 4) (v := ?_) rfl rfl (by kernel_rfl) (by kernel_rfl) (by kernel_rfl) (fun _ _ _ h => h) (Or.inl ⟨by rfl, ?_⟩) (by assumption) ?_
  rotate_left
  · (intro w hSw; (try dsimp only at hSw); go_simp; try with_reducible rfl)
  try simp only [Act.put, List.setIfInBounds_toArray, List.set_cons_zero, List.set_cons_succ]
  refine wpAnyH_done (by kernel_rfl) ?_ _
  generalize vn - 1 = N at *
  try simp only [List.set_cons_succ, List.set_cons_zero]
  go_wp2_with fail
  go_ret
  exact ⟨.slice p6 N c6, rfl, HEND.out _ _ ROW6.out K6.out, K6.out⟩
/-- what goes, as the document tells it: the list is given back on an error. -/
def QGoesSays (S : Nat → Prop) (l : List JItem) (x : JItem) (w : World) (e : Ending) (w' : World) : Prop :=
  ∃ v, e = .returned (.tuple #[v, .int .i64 (goesX l x).2]) ∧ ItemsOff S w' v (if (goesX l x).2 = 0 then (goesX l x).1 else l) ∧ Kept [] w w'
theorem qgoes_no {S : Nat → Prop} {l : List JItem} {x : JItem} {v : Value} {w w' : World} (h : ¬ hasK l x) (hv : ItemsOff S w' v l) (k : Kept [] w w') : QGoesSays S l x w (.returned (.tuple #[v, .int .i64 6])) w' := by
  have e : goesX l x = ([], 6) := by unfold goesX; rw [if_neg h]
  unfold QGoesSays
  rw [e]
  exact ⟨v, rfl, hv, k⟩
theorem qgoes_yes {S : Nat → Prop} {l : List JItem} {x : JItem} {v : Value} {w w' : World} (h : hasK l x) (hv : ItemsOff S w' v (delI l (idxK l x))) (k : Kept [] w w') : QGoesSays S l x w (.returned (.tuple #[v, .int .i64 0])) w' := by
  have e : goesX l x = (delI l (idxK l x), 0) := by unfold goesX; rw [if_pos h]
  unfold QGoesSays
  rw [e]
  exact ⟨v, rfl, hv, k⟩
set_option maxRecDepth 100000 in
set_option maxHeartbeats 4000000 in
theorem qgoes {S : Nat → Prop} (v : Value) (l : List JItem) (r : JRec) (rv : Value) (w : World) (h : ItemsOff S w v l) (hS : ∀ x, S x → x < w.heap.size) (hl : l.length ≤ 100000) (hs : SlV rv) :
    Calls Tryz.prog 103 #[v, .agg (r.cells rv)] w (QGoesSays S l r.item w) := by
  have HA : Hid (∀ W, Kept [] w W → Calls Tryz.prog 27 #[v, .int .u32 r.id, .string (bs r.name)] W (QAtSays l r.item W)) := Lib.hid (fun W q => qat v l r.item W (h.plain.kept0 q) (by omega))
  have HW : Hid (∀ W (i : Nat), Kept [] w W → i < l.length → Calls Tryz.prog 128 #[v, .int .i64 i] W (GivesI S (delI l i) W)) := Lib.hid (fun W i q hi => qwithout v l i W (h.kept0 q) (fun x hx => Nat.lt_of_lt_of_le (hS x hx) q.size) hi hl)
  have HV := Lib.hid h
  obtain ⟨pv, cv, rfl⟩ := h.plain.shape
  obtain ⟨p, n, c, rfl⟩ := hs
  have oR := Own.new w (r.cells (.slice p n c)) 55
  have k0 : Kept [] w (w.alloc (.cells (r.cells (.slice p n c)) 55)) := (Kept.refl _ _).alloc _
  unfold JRec.cells at oR k0 ⊢
  obtain ⟨x0, x1, x2, x3, x4⟩ := oR.k5
  have K0 := Lib.hid k0
  unfold QAtSays at HA
  unfold GivesI at HW
  clear oR k0 h hl hS
  by_cases hh : hasK l r.item
  · have ha : atI l r.item = (idxK l r.item : Int) := by unfold atI; exact if_pos hh
    rw [ha] at HA
    have hi : idxK l r.item < l.length := hh
    have HI := Lib.hid hi
    have HH := Lib.hid hh
    obtain ⟨i, hie⟩ : ∃ i, i = idxK l r.item := ⟨_, rfl⟩
    have HIE := Lib.hid hie
    rw [← hie] at HA HI
    clear ha hi hh hie
    go_enter Tryz.func103, Tryz.ntmps103
    go_wp2_with fail
    refine (HA.out _ K0.out).mono ?_; rintro e w2 ⟨rfl, k2⟩
    have K2 := Lib.hid (K0.out.trans k2)
    have i1 : ¬ (i : Int) < 0 := by omega
    go_wp2_with fail
    refine (HW.out _ i K2.out HI.out).mono ?_; rintro e w3 ⟨u, rfl, hu, k3⟩
    have HU := Lib.hid hu
    clear hu
    obtain ⟨pu, cu, rfl⟩ := HU.out.plain.shape
    go_wp2_with fail
    go_ret2
    exact qgoes_yes HH.out (by rw [← HIE.out]; exact HU.out) (K2.out.trans k3)
  · have ha : atI l r.item = -1 := by unfold atI; exact if_neg hh
    rw [ha] at HA
    have HH := Lib.hid hh
    clear ha hh
    go_enter Tryz.func103, Tryz.ntmps103
    go_wp2_with fail
    refine (HA.out _ K0.out).mono ?_; rintro e w2 ⟨rfl, k2⟩
    have K2 := Lib.hid (K0.out.trans k2)
    go_wp2_with fail
    go_ret2
    exact qgoes_no HH.out (HV.out.kept0 K2.out) K2.out
/-- append of items that came in. -/
theorem wpList_append_raw {w : World} {ops : Array Oper} {rest : List Oper} {o : Oper} {a : Act} {Q : Exit → Act → World → Prop} (hgd : o.guard = none) (s x : Operand)
    (ho : o.op = .call { callee := .builtin .append, args := #[s, x], argTypes := #[23, 23] })
    (base : Nat) (v : Value) (n : Nat) (xs : List Value) (hs : a.eval s = v) (hown : w.ownsRow base 58 4 v n xs)
    (u : Value) (m : Nat) (news : List Value) (hx : a.eval x = u) (hsrc : RawIn w u m 4 news) (h1 : ∀ y ∈ news, y.oneCell' = true)
    (h63 : n + m ≤ maxLen) (hbytes : (n + m) * 56 ≤ 140737488355328) (hbase : base ≤ w.heap.size)
    (h : ∀ v' w', w'.ownsRow base 58 4 v' (n + m) (xs ++ news) → w.grownBy w' v.ownBlock → wpList Tryz.prog ops Q rest (a.put o.dst v') w') :
    wpList Tryz.prog ops Q (o :: rest) a w := by
  obtain ⟨i0, q0, q1, q2, q3⟩ := infoItem
  obtain ⟨p, c, rfl⟩ := hsrc.shape
  have hlen := hsrc.1
  cases p with
  | none =>
    have hm : m = 0 := by
      rcases hsrc.2 with ⟨h, _⟩ | ⟨b, off, c', e, _⟩
      · exact h
      · simp at e
    subst hm
    have hn : news = [] := List.eq_nil_of_length_eq_zero (by omega)
    subst hn
    refine wpList_plain hgd fun K hK => ?_
    have hrun := run_append_none_any (P := Tryz.prog) (w := w) base 23 o.type 58 i0 4 Tryz.underlying23 q0 v n c xs hown
    have hx' : a.eval x = .slice none 0 c := hx
    unfold Oper.wp
    simp [execOp, ho, resolve, invoke, builtin, hs, hx', hrun, Result.andThen]
    exact hK _ _ (h v w (by simpa using hown) (grownBy_refl _ _))
  | some ad =>
    have hcell : ∀ j u, news[j]? = some u → w.cell? (ad.add j) = some u := by
      by_cases h0 : m = 0
      · subst h0
        have hn : news = [] := List.eq_nil_of_length_eq_zero (by omega)
        subst hn
        intro j u hj; simp at hj
      · obtain ⟨b, off, e, h3, _⟩ := hsrc.at_ (by omega)
        injection e with e
        subst e
        intro j u hj
        rw [Go.WideShapes.add_plain]
        exact h3 j u hj
    refine wpList_append_own_at w hgd s x 23 ho base 58 i0 _ 4 56 Tryz.underlying23 q0 q1 q2 q3 rfl (by decide) v n xs hs hown ad m c news hx hlen hcell h1 h63 hbytes hbase ?_
    intro v' w' h2 h3 _ _
    exact h v' w' h2 h3
theorem RawIn.nil (w : World) (p : Option Addr) (c : Nat) : RawIn w (.slice p 0 c) 0 4 [] := ⟨rfl, Or.inl ⟨rfl, p, c, rfl⟩⟩
theorem items_parts {w : World} {b off c : Nat} {vs : List (JItem × Value)} (hraw : RawIn w (.slice (some ⟨b, off, none⟩) vs.length c) vs.length 4 (icells vs)) (k : Nat) (hk : k ≤ vs.length) :
    ∃ P2 : Addr, (if c = k then some (⟨b, off, none⟩ : Addr) else some ⟨b, off + k * 4, none⟩) = some P2 ∧ (∀ W, Kept [] w W → RawIn W (.slice (some ⟨b, off, none⟩) k c) k 4 (icells (vs.take k))) ∧ (∀ W, Kept [] w W → RawIn W (.slice (some P2) (vs.length - k) (c - k)) (vs.length - k) 4 (icells (vs.drop k))) := by
  have h1 := hraw.sub 0 k (Nat.zero_le _) hk
  have h2 := hraw.sub k vs.length hk (Nat.le_refl _)
  rw [Nat.zero_mul, Nat.add_zero, Nat.sub_zero, Nat.sub_zero, List.drop_zero, icells_take] at h1
  rw [icells_drop, List.take_of_length_le (by rw [icells_len, List.length_drop]; omega)] at h2
  by_cases hc : c = k
  · refine ⟨_, if_pos hc, fun W q => h1.kept0 q, fun W q => ?_⟩
    have h0 : vs.length - k = 0 := by
      by_cases h : 0 < vs.length
      · obtain ⟨_, _, _, _, _, h6, _⟩ := hraw.at_ h
        omega
      · omega
    have h3 : vs.drop k = [] := List.drop_eq_nil_of_le (by omega)
    rw [h0, h3]
    exact RawIn.nil _ _ _
  · exact ⟨_, if_neg hc, fun W q => h1.kept0 q, fun W q => h2.kept0 q⟩
theorem ins_end {S : Nat → Prop} {w w' : World} {v' : Value} {vs : List (JItem × Value)} {x : JItem} {xv : Value} (hS : ∀ x, S x → x < w.heap.size) (hok : ∀ y ∈ vs, ItemOk w y ∧ OffV S y.2 y.1.runs.length) (hx : ItemOk w (x, xv) ∧ OffV S xv x.runs.length) (q : Kept [] w w') {k : Nat} (hk : k = posI (vs.map (·.1)) x) {N : Nat} (hN : N = vs.length + 1)
    (ho : w'.ownsRow w.heap.size 58 4 v' N ((([] ++ icells (vs.take k)) ++ vcells x xv) ++ icells (vs.drop k))) : ItemsOff S w' v' (insI (vs.map (·.1)) x) := by
  subst hk hN
  rw [List.nil_append, ← icells_take, ← icells_drop] at ho
  exact ItemsIn.set_in ho hS hok hx q
theorem ltI_five (a b : JItem) : (a.id < b.id ∧ ltI a b = true) ∨ (¬ a.id < b.id ∧ ¬ a.id = b.id ∧ ltI a b = false) ∨ (¬ a.id < b.id ∧ a.id = b.id ∧ ltI a b = ltN a.name b.name) := by
  unfold ltI
  by_cases h1 : a.id < b.id
  · exact Or.inl ⟨h1, by simp [h1]⟩
  · by_cases h2 : a.id = b.id
    · exact Or.inr (Or.inr ⟨h1, h2, by simp [h2]⟩)
    · exact Or.inr (Or.inl ⟨h1, h2, by simp [h1, h2]⟩)
set_option maxRecDepth 100000 in
set_option maxHeartbeats 4000000 in
theorem qwith {S : Nat → Prop} (v : Value) (l : List JItem) (x : JItem) (xv : Value) (w : World) (h : ItemsOff S w v l) (hS : ∀ x, S x → x < w.heap.size) (hx : ItemOk w (x, xv) ∧ OffV S xv x.runs.length) (hl : l.length ≤ 100000) :
    Calls Tryz.prog 127 #[v, .agg (x.cells xv)] w (GivesI S (insI l x) w) := by
  obtain ⟨pv, cv, rfl⟩ := h.plain.shape
  obtain ⟨px, nx, cx, rfl⟩ := hx.1.slv
  obtain ⟨W1, hW1⟩ : ∃ W1, W1 = w.alloc (.cells (x.cells (.slice px nx cx)) 58) := ⟨_, rfl⟩
  have k1 : Kept [] w W1 := by rw [hW1]; exact (Kept.refl _ _).alloc _
  have oX : Own W1 w.heap.size (x.cells (.slice px nx cx)) 58 := by rw [hW1]; exact Own.new _ _ _
  unfold JItem.cells at oX hW1 ⊢
  have HCELL : Hid (∀ W, Kept [] W1 W → W.cell? ⟨w.heap.size, 0, none⟩ = some (.int .u32 x.id) ∧ W.cell? ⟨w.heap.size, 1, none⟩ = some (.string (bs x.name)) ∧ W.cell? ⟨w.heap.size, 2, none⟩ = some (.int .i64 x.size) ∧ W.cell? ⟨w.heap.size, 3, none⟩ = some (.slice px nx cx)) := Lib.hid (fun W q => (q.own oX (by simp)).c4)
  have H := Lib.hid (h.plain.kept0 k1)
  have H0 := Lib.hid h
  have HSL := Lib.hid hS
  have HX := Lib.hid hx
  have HL := Lib.hid hl
  have KW1 := Lib.hid k1
  have j1 : (l.length : Int) ≤ 100000 := by omega
  clear h k1 oX hx hl hS
  unfold GivesI
  go_enter Tryz.func127, Tryz.ntmps127
  go_upto_block 0 with fail
  rw [← hW1]
  go_cut [5] from 7 to 42 (fun v5 wx => v5 = .int .i64 (posI l x) ∧ Kept [] W1 wx)
  case first =>
    go_wp2_with fail
    go_loopw [5] (fun i wr => ∃ k : Nat, k ≤ l.length ∧ i = .int .i64 k ∧ (∀ j (hj : j < l.length), j < k → ltI l[j] x = true) ∧ Kept [] W1 wr) (fun i _ => l.length - (intOf i).toNat)
    case atStart => exact ⟨0, Nat.zero_le _, rfl, fun j hj h => absurd h (Nat.not_lt_zero j), Kept.refl _ _⟩
    case round =>
      obtain ⟨k, hk, rfl, hlo, hK⟩ := hrel
      rename World => wr
      by_cases hlt : k < l.length
      · have i1 : (k : Int) < l.length := by omega
        obtain ⟨b, off, kv, rfl, hia, hb, hc1, hc2, HIA⟩ := H.out.at4 k hlt
        obtain ⟨y0, y1, y2, y3⟩ := HIA wr hK
        obtain ⟨x0, x1, x2, x3⟩ := HCELL.out wr hK
        have h5 := ltI_five (l[k]'hlt) x
        have HNX : Hid (ltI (l[k]'hlt) x = true → ∀ j (hj : j < l.length), j < k + 1 → ltI l[j] x = true) := Lib.hid (fun he j hj hjk => by
          by_cases e : j = k
          · subst e; exact he
          · exact hlo j hj (by omega))
        have HPO : Hid (ltI (l[k]'hlt) x = false → posI l x = k) := Lib.hid (fun he => posI_eq (Nat.le_of_lt hlt) (fun j hj => hlo j (by omega) hj) (fun _ => he))
        have HK := Lib.hid hK
        have HLT := Lib.hid hlt
        clear hia HIA hb hlo hK
        generalize hLA : l[k]'hlt = A at *
        clear hLA
        rcases h5 with ⟨h1, h2⟩ | ⟨h1, h2, h3⟩ | ⟨h1, h2, h3⟩
        · have d1 : decide (A.id < x.id) = true := by simpa using h1
          have HN := Lib.hid (HNX.out h2)
          clear h2 h1 HNX hlt HPO
          go_wp2_with fail
          go_quiet (fail)
          go_wp2_with fail
          go_roundw
          case rel => exact ⟨k + 1, HLT.out, by go_num, HN.out, HK.out.drewN _⟩
          case measure => (have hh := HLT.out; simp [intOf]; omega)
        · have d1 : decide (A.id < x.id) = false := by simpa using h1
          have d2 : (A.id == x.id) = false := by simpa using h2
          have HP := Lib.hid (HPO.out h3)
          clear h2 h1 h3 HNX hlt HPO
          go_wp2_with fail
          go_quiet (fail)
          go_wp2_with fail
          go_meet
          exact ⟨by rw [HP.out], HK.out.drewN _⟩
        · have d1 : decide (A.id < x.id) = false := by simpa using h1
          have d2 : (A.id == x.id) = true := by simpa using h2
          obtain ⟨q, hq⟩ : ∃ q, ltN A.name x.name = q := ⟨_, rfl⟩
          rw [hq] at h3
          have d3 : Op.bytesLess A.name x.name = q := hq
          have d4 : Op.bytesLess (bs A.name).toList (bs x.name).toList = q := by rw [bs_toList, bs_toList]; exact hq
          cases q with
          | true =>
            have HN := Lib.hid (HNX.out h3)
            clear h2 h1 h3 hq HNX hlt HPO
            go_wp2_with fail
            go_quiet (fail)
            go_wp2_with fail
            go_roundw
            case rel => exact ⟨k + 1, HLT.out, by go_num, HN.out, HK.out.drewN _⟩
            case measure => (have hh := HLT.out; simp [intOf]; omega)
          | false =>
            have HP := Lib.hid (HPO.out h3)
            clear h2 h1 h3 hq HNX hlt HPO
            go_wp2_with fail
            go_quiet (fail)
            go_wp2_with fail
            go_meet
            exact ⟨by rw [HP.out], HK.out.drewN _⟩
      · obtain rfl : k = l.length := by omega
        have d0 : decide ((l.length : Int) < l.length) = false := by simp
        have HP : Hid (posI l x = l.length) := Lib.hid (posI_eq (Nat.le_refl _) (fun j hj => hlo j hj hj) (fun hh => absurd hh (Nat.lt_irrefl _)))
        have HK := Lib.hid hK
        clear hlo hK hlt hk
        go_wp2_with fail
        go_quiet (fail)
        go_wp2_with fail
        go_meet
        exact ⟨by rw [HP.out], HK.out.drewN _⟩
  case rest =>
    obtain ⟨rfl, hkc⟩ := hcut
    rename World => wc
    obtain ⟨i0, q0, q1, q2, q3⟩ := infoItem
    obtain ⟨vs, hvs, hraw, hok, _⟩ := H0.out
    have hlv : vs.length = l.length := by rw [← hvs, List.length_map]
    have KC1 := Lib.hid hkc
    have KWC := Lib.hid (KW1.out.trans hkc)
    have HSZ : Hid (w.heap.size ≤ wc.heap.size) := Lib.hid (KW1.out.trans hkc).size
    have hone := icells_one (fun y hy => (hok y hy).1.slv)
    have HEND : Hid (∀ w' v' N, N = vs.length + 1 → Kept [] w w' → w'.ownsRow w.heap.size 58 4 v' N ((([] ++ icells (vs.take (posI l x))) ++ vcells x (.slice px nx cx)) ++ icells (vs.drop (posI l x))) → ItemsOff S w' v' (insI l x)) := Lib.hid (fun w' v' N hN q ho => by
      have := ins_end HSL.out hok HX.out q (k := posI l x) (by rw [hvs]) hN ho
      rw [hvs] at this
      exact this)
    have HT1 : Hid (∀ u ∈ icells (vs.take (posI l x)), u.oneCell' = true) := Lib.hid (fun u hu => hone u (by rw [← icells_take] at hu; exact List.mem_of_mem_take hu))
    have HT2 : Hid (∀ u ∈ icells (vs.drop (posI l x)), u.oneCell' = true) := Lib.hid (fun u hu => hone u (by rw [← icells_drop] at hu; exact List.mem_of_mem_drop hu))
    have hkl : posI l x ≤ vs.length := by rw [hlv]; exact posI_le l x
    have HB : Hid (posI l x ≤ vs.length ∧ vs.length ≤ 100000) := Lib.hid ⟨hkl, by have := HL.out; omega⟩
    clear hkc hone
    by_cases h0 : vs.length = 0
    · have hk0 : posI l x = 0 := by omega
      have hvs0 : vs = [] := List.eq_nil_of_length_eq_zero h0
      have e1 : icells (vs.take (posI l x)) = [] := by rw [hvs0]; simp [icells]
      have e2 : icells (vs.drop (posI l x)) = [] := by rw [hvs0]; simp [icells]
      rw [e1, e2] at HEND
      rw [e1] at HT1
      rw [e2] at HT2
      rw [hk0, h0] at HB
      rw [hk0]
      rw [h0] at HEND
      rw [h0] at hlv
      rw [← hlv]
      clear e1 e2 hk0 hvs0 hraw hok hvs hlv h0 hkl H0 H HX j1 HL
      cases pv with
      | none =>
        go_wp2_with (at_builtin; go_must (refine wpList_append_raw rfl (.tmp 43) (.tmp 46) rfl w.heap.size _ 0 [] rfl (ownsRow_empty _ w.heap.size 58 4 HSZ.out) _ 0 [] rfl (RawIn.nil _ _ _) HT1.out (by have := HB.out; unfold maxLen; omega) (by have := HB.out; omega) (by have := HSZ.out; simp; omega) ?_))
        intro v6 w6 o6 gr6
        have K6 := Lib.hid ((KWC.out.alloc (.cells #[] 58)).grown gr6 (fun q hq => Or.inr (World.ownsRow.lt (ownsRow_empty wc w.heap.size 58 4 HSZ.out) q hq).1))
        have K61 := Lib.hid ((KC1.out.alloc (.cells #[] 58)).grown gr6 (fun q hq => Or.inr (by have hh : q = wc.heap.size := (by simpa [Value.ownBlock] using hq.symm); have := KC1.out.size; omega)))
        have ROW6 := Lib.hid o6
        obtain ⟨p6, c6, rfl⟩ := own_shape o6
        obtain ⟨x0, x1, x2, x3⟩ := HCELL.out w6 K61.out
        clear o6 gr6 K61
        go_wp2_with (at_builtin; go_must (refine wpList_append_own_at _ rfl (.tmp 48) (.tmp 50) 23 rfl w.heap.size 58 i0 _ 4 56 Tryz.underlying23 q0 q1 q2 q3 rfl (by decide) _ _ _ rfl (World.ownsRow.alloc ROW6.out _) ⟨w6.heap.size, 0, none⟩ 1 1 (vcells x (.slice px nx cx)) rfl rfl ?_ ?_ (by have := HB.out; unfold maxLen; omega) (by have := HB.out; omega) ?_ ?_))
        · exact World.news_of_block (heap_alloc_new w6 _)
        · intro u hu; simp [vcells] at hu; rcases hu with rfl | rfl | rfl | rfl <;> rfl
        · have := K6.out.size; simp; omega
        intro v7 w7 o7 gr7 _ _
        have K7 := Lib.hid ((K6.out.alloc _).grown gr7 (fun q hq => Or.inr (World.ownsRow.lt ROW6.out q hq).1))
        have ROW7 := Lib.hid o7
        obtain ⟨p7, c7, rfl⟩ := own_shape o7
        clear o7 gr7 x0 x1 x2 x3
        go_wp2_with (at_builtin; go_must (refine wpList_append_raw rfl (.tmp 52) (.tmp 55) rfl w.heap.size _ _ _ rfl ROW7.out _ (0 - 0) [] rfl (RawIn.nil _ _ _) HT2.out (by have := HB.out; unfold maxLen; omega) (by have := HB.out; omega) (by have := K7.out.size; omega) ?_))
        intro v8 w8 o8 gr8
        have K8 := Lib.hid (K7.out.grown gr8 (fun q hq => Or.inr (World.ownsRow.lt ROW7.out q hq).1))
        have HF := Lib.hid (HEND.out _ _ (0 + 0 + 1 + (0 - 0)) (by have := HB.out; omega) K8.out (by first | exact o8 | simpa using o8))
        obtain ⟨p8, c8, rfl⟩ := own_shape o8
        clear o8 gr8
        (try generalize 0 + 0 + 1 + (0 - 0) = N at *)
        (try generalize 0 + 1 + (0 - 0) = N at *)
        go_wp2_with fail
        go_ret
        exact ⟨_, rfl, HF.out, K8.out⟩
      | some ad =>
        obtain ⟨b, off, ix⟩ := ad
        go_wp2_with (at_builtin; go_must (refine wpList_append_raw rfl (.tmp 43) (.tmp 46) rfl w.heap.size _ 0 [] rfl (ownsRow_empty _ w.heap.size 58 4 HSZ.out) _ 0 [] rfl (RawIn.nil _ _ _) HT1.out (by have := HB.out; unfold maxLen; omega) (by have := HB.out; omega) (by have := HSZ.out; simp; omega) ?_))
        intro v6 w6 o6 gr6
        have K6 := Lib.hid ((KWC.out.alloc (.cells #[] 58)).grown gr6 (fun q hq => Or.inr (World.ownsRow.lt (ownsRow_empty wc w.heap.size 58 4 HSZ.out) q hq).1))
        have K61 := Lib.hid ((KC1.out.alloc (.cells #[] 58)).grown gr6 (fun q hq => Or.inr (by have hh : q = wc.heap.size := (by simpa [Value.ownBlock] using hq.symm); have := KC1.out.size; omega)))
        have ROW6 := Lib.hid o6
        obtain ⟨p6, c6, rfl⟩ := own_shape o6
        obtain ⟨x0, x1, x2, x3⟩ := HCELL.out w6 K61.out
        clear o6 gr6 K61
        go_wp2_with (at_builtin; go_must (refine wpList_append_own_at _ rfl (.tmp 48) (.tmp 50) 23 rfl w.heap.size 58 i0 _ 4 56 Tryz.underlying23 q0 q1 q2 q3 rfl (by decide) _ _ _ rfl (World.ownsRow.alloc ROW6.out _) ⟨w6.heap.size, 0, none⟩ 1 1 (vcells x (.slice px nx cx)) rfl rfl ?_ ?_ (by have := HB.out; unfold maxLen; omega) (by have := HB.out; omega) ?_ ?_))
        · exact World.news_of_block (heap_alloc_new w6 _)
        · intro u hu; simp [vcells] at hu; rcases hu with rfl | rfl | rfl | rfl <;> rfl
        · have := K6.out.size; simp; omega
        intro v7 w7 o7 gr7 _ _
        have K7 := Lib.hid ((K6.out.alloc _).grown gr7 (fun q hq => Or.inr (World.ownsRow.lt ROW6.out q hq).1))
        have ROW7 := Lib.hid o7
        obtain ⟨p7, c7, rfl⟩ := own_shape o7
        clear o7 gr7 x0 x1 x2 x3
        go_wp2_with (at_builtin; go_must (refine wpList_append_raw rfl (.tmp 52) (.tmp 55) rfl w.heap.size _ _ _ rfl ROW7.out _ (0 - 0) [] rfl (RawIn.nil _ _ _) HT2.out (by have := HB.out; unfold maxLen; omega) (by have := HB.out; omega) (by have := K7.out.size; omega) ?_))
        intro v8 w8 o8 gr8
        have K8 := Lib.hid (K7.out.grown gr8 (fun q hq => Or.inr (World.ownsRow.lt ROW7.out q hq).1))
        have HF := Lib.hid (HEND.out _ _ (0 + 0 + 1 + (0 - 0)) (by have := HB.out; omega) K8.out (by first | exact o8 | simpa using o8))
        obtain ⟨p8, c8, rfl⟩ := own_shape o8
        clear o8 gr8
        (try generalize 0 + 0 + 1 + (0 - 0) = N at *)
        (try generalize 0 + 1 + (0 - 0) = N at *)
        go_wp2_with fail
        go_ret
        exact ⟨_, rfl, HF.out, K8.out⟩
    · rw [← hlv] at hraw
      obtain ⟨b, off, rfl, _, _, hnc, hcm⟩ := hraw.at_ (by omega)
      obtain ⟨P2, hP2, hs1, hs2⟩ := items_parts hraw (posI l x) hkl
      have HS1 := Lib.hid hs1
      have HS2 := Lib.hid hs2
      generalize icells (vs.take (posI l x)) = T1 at *
      generalize icells (vs.drop (posI l x)) = T2 at *
      rw [← hlv]
      have j2 : (vs.length : Int) ≤ 100000 := by have := HB.out; omega
      have j3 : (vs.length : Int) ≤ cv := by omega
      have j4 : (cv : Int) ≤ 9223372036854775807 := by unfold maxLen at hcm; omega
      have j5 : (posI l x : Int) ≤ vs.length := by have := HB.out; omega
      have j6 : (posI l x : Int) ≤ cv := by have := HB.out; omega
      have j7 : posI l x ≤ cv := by omega
      clear hs1 hs2 hraw hok hvs hlv h0 hkl H0 H HX j1 HL hnc hcm
      generalize posI l x = k at *
      generalize vs.length = n at *
      go_wp2_with (at_builtin; go_must (refine wpList_append_raw rfl (.tmp 43) (.tmp 46) rfl w.heap.size _ 0 [] rfl (ownsRow_empty _ w.heap.size 58 4 HSZ.out) _ k T1 rfl (HS1.out _ (KWC.out.alloc _)) HT1.out (by have := HB.out; unfold maxLen; omega) (by have := HB.out; omega) (by have := HSZ.out; simp; omega) ?_))
      intro v6 w6 o6 gr6
      have K6 := Lib.hid ((KWC.out.alloc (.cells #[] 58)).grown gr6 (fun q hq => Or.inr (World.ownsRow.lt (ownsRow_empty wc w.heap.size 58 4 HSZ.out) q hq).1))
      have K61 := Lib.hid ((KC1.out.alloc (.cells #[] 58)).grown gr6 (fun q hq => Or.inr (by have hh : q = wc.heap.size := (by simpa [Value.ownBlock] using hq.symm); have := KC1.out.size; omega)))
      have ROW6 := Lib.hid o6
      obtain ⟨p6, c6, rfl⟩ := own_shape o6
      obtain ⟨x0, x1, x2, x3⟩ := HCELL.out w6 K61.out
      clear o6 gr6 K61
      go_wp2_with (at_builtin; go_must (refine wpList_append_own_at _ rfl (.tmp 48) (.tmp 50) 23 rfl w.heap.size 58 i0 _ 4 56 Tryz.underlying23 q0 q1 q2 q3 rfl (by decide) _ _ _ rfl (World.ownsRow.alloc ROW6.out _) ⟨w6.heap.size, 0, none⟩ 1 1 (vcells x (.slice px nx cx)) rfl rfl ?_ ?_ (by have := HB.out; unfold maxLen; omega) (by have := HB.out; omega) ?_ ?_))
      · exact World.news_of_block (heap_alloc_new w6 _)
      · intro u hu; simp [vcells] at hu; rcases hu with rfl | rfl | rfl | rfl <;> rfl
      · have := K6.out.size; simp; omega
      intro v7 w7 o7 gr7 _ _
      have K7 := Lib.hid ((K6.out.alloc _).grown gr7 (fun q hq => Or.inr (World.ownsRow.lt ROW6.out q hq).1))
      have ROW7 := Lib.hid o7
      obtain ⟨p7, c7, rfl⟩ := own_shape o7
      clear o7 gr7 x0 x1 x2 x3
      go_wp2_with (at_builtin; go_must (refine wpList_append_raw rfl (.tmp 52) (.tmp 55) rfl w.heap.size _ _ _ rfl ROW7.out _ (n - k) T2 rfl (HS2.out _ K7.out) HT2.out (by have := HB.out; unfold maxLen; omega) (by have := HB.out; omega) (by have := K7.out.size; omega) ?_))
      intro v8 w8 o8 gr8
      have K8 := Lib.hid (K7.out.grown gr8 (fun q hq => Or.inr (World.ownsRow.lt ROW7.out q hq).1))
      have HF := Lib.hid (HEND.out _ _ (0 + k + 1 + (n - k)) (by have := HB.out; omega) K8.out (by first | exact o8 | simpa using o8))
      obtain ⟨p8, c8, rfl⟩ := own_shape o8
      clear o8 gr8
      (try generalize 0 + k + 1 + (n - k) = N at *)
      (try generalize k + 1 + (n - k) = N at *)
      go_wp2_with fail
      go_ret
      exact ⟨_, rfl, HF.out, K8.out⟩
end Go.Proofs.YtakdnchmehmdhaaGreat
