/- -/
import Derived.Test.YtdkimcnlhmhpgaaGreatG24
set_option linter.unusedVariables false
set_option linter.unusedSimpArgs false
namespace Go.Proofs.YtdkimcnlhmhpgaaGreat
open Go.RowKit
theorem posI_congr {x y : JItem} (h : eqK x y = true) (l : List JItem) : posI l x = posI l y := by
  unfold posI
  congr 2
  funext a
  exact ltI_congr_r h
theorem idxK_congr {x y : JItem} (h : eqK x y = true) (l : List JItem) : idxK l x = idxK l y := by
  unfold idxK
  congr 2
  funext a
  rw [eqK_congr_r h]
theorem hasK_congr {x y : JItem} (h : eqK x y = true) (l : List JItem) : hasK l x ↔ hasK l y := by
  unfold hasK; rw [idxK_congr h]
theorem ItemsIn.del_in {S : Nat → Prop} {w w' : World} {base : Nat} {v : Value} {vs : List (JItem × Value)} {i : Nat} (hi : i < vs.length) (h : w'.ownsRow base 113 4 v (vs.length - 1) ((icells vs).take (i * 4) ++ (icells vs).drop ((i + 1) * 4))) (hS : ∀ x, S x → x < base) (h3 : ∀ y ∈ vs, ItemOk w y ∧ OffV S y.2 y.1.runs.length) (k : Kept [] w w') : ItemsOff S w' v (delI (vs.map (·.1)) i) := by
  have em : (vs.take i ++ vs.drop (i + 1)).map (·.1) = delI (vs.map (·.1)) i := by
    unfold delI
    rw [List.map_append, List.map_take, List.map_drop]
  rw [← em]
  refine ItemsOff.of_own (base := base) ?_ hS (fun y hy => ?_)
  · have e1 : (vs.take i ++ vs.drop (i + 1)).length = vs.length - 1 := by
      rw [List.length_append, List.length_take, List.length_drop]; omega
    rw [e1, icells_append, ← icells_take, ← icells_drop]
    exact h
  · rcases List.mem_append.1 hy with hy | hy
    · have := h3 y (List.mem_of_mem_take hy); exact ⟨this.1.kept0 k, this.2⟩
    · have := h3 y (List.mem_of_mem_drop hy); exact ⟨this.1.kept0 k, this.2⟩
set_option maxRecDepth 100000 in
set_option maxHeartbeats 4000000 in
theorem zgoes {S : Nat → Prop} (v : Value) (l : List JItem) (r : JRec) (rv : Value) (w : World) (h : ItemsOff S w v l) (hS : ∀ x, S x → x < w.heap.size) (hl : l.length ≤ 100000) (hr : Rise l) (hs : SlV rv) :
    Calls Tryz.prog 172 #[v, .agg (r.cells rv)] w (ComesSays S (goesX l r.item) w) := by
  have hek : eqK (⟨r.id, r.name, 0, []⟩ : JItem) r.item = true := by unfold eqK JRec.item; simp
  have HS : Hid (∀ W, Kept [] w W → Calls Tryz.prog 234 #[v, .agg #[.int .u32 r.id, .string (bs r.name), .int .i64 0, .slice none 0 0], .func (.func 233) #[] #[]] W fun e w' => ∃ q, e = .returned (.tuple #[.int .i64 (posI l r.item), .bool q]) ∧ (q = true ↔ hasK l r.item) ∧ Kept [] W w') := Lib.hid (fun W q => by
    have hh := zseek v l ⟨r.id, r.name, 0, []⟩ (.slice none 0 0) W (h.plain.kept0 q) (by omega) hr
    unfold SeekSays at hh
    rw [posI_congr hek, hasK_congr hek] at hh
    exact hh)
  have HSX := Lib.hid hS
  have HG0 : Hid (¬ hasK l r.item → goesX l r.item = ([], 6)) := Lib.hid (fun hh => by unfold goesX; rw [if_neg hh])
  have HG1 : Hid (hasK l r.item → goesX l r.item = (delI l (posI l r.item), 0) ∧ posI l r.item < l.length) := Lib.hid (fun hh => by
    unfold goesX; rw [if_pos hh, posI_idx hr hh]; exact ⟨rfl, hh⟩)
  obtain ⟨vs, hvs, hraw, hok, _⟩ := h
  have hlv : vs.length = l.length := by rw [← hvs, List.length_map]
  have hslv : ∀ y ∈ vs, SlV y.2 := fun y hy => (hok y hy).1.slv
  have HCL : Hid (∀ W, Kept [] w W → Calls Tryz.prog 127 #[v] W fun e w' => ∃ v', e = .returned v' ∧ w'.ownsRow W.heap.size 113 4 v' l.length (icells vs) ∧ Kept [] W w') := Lib.hid (fun W q => by rw [← hlv]; exact zclone v vs.length (icells vs) W (hraw.kept0 q) (icells_one hslv) (by omega))
  have HD : Hid (∀ W v' base, W.ownsRow base 113 4 v' l.length (icells vs) → posI l r.item < l.length → Calls Tryz.prog 236 #[v', .int .i64 (posI l r.item), .int .i64 ((posI l r.item + 1 : Nat) : Int)] W (RowSays base v' (l.length - 1) ((icells vs).take (posI l r.item * 4) ++ (icells vs).drop ((posI l r.item + 1) * 4)) W)) := Lib.hid (fun W v' base ho hp => zdelete base v' l.length (icells vs) _ _ W ho (icells_one hslv) hp rfl)
  have HIN : Hid (∀ w' base v', (∀ x, S x → x < base) → posI l r.item < l.length → w'.ownsRow base 113 4 v' (l.length - 1) ((icells vs).take (posI l r.item * 4) ++ (icells vs).drop ((posI l r.item + 1) * 4)) → Kept [] w w' → ItemsOff S w' v' (delI l (posI l r.item))) := Lib.hid (fun w' base v' hSb hp ho k => by
    rw [← hvs] at hp ho ⊢
    rw [List.length_map] at hp ho
    exact ItemsIn.del_in hp ho hSb hok k)
  obtain ⟨pv, cv, rfl⟩ := hraw.shape
  rw [hlv] at HS HCL ⊢
  obtain ⟨prr, nrr, crr, rfl⟩ := hs
  have oR := Own.new w (r.cells (.slice prr nrr crr)) 102
  have k0 : Kept [] w (w.alloc (.cells (r.cells (.slice prr nrr crr)) 102)) := (Kept.refl _ _).alloc _
  unfold JRec.cells at oR k0 ⊢
  obtain ⟨x0, x1, x2, x3, x4⟩ := oR.k5
  have K0 := Lib.hid k0
  have j1 : (l.length : Int) ≤ 1000000 := by omega
  clear oR k0 hraw hok hslv hlv hvs hr hek hS
  unfold RowSays at HD
  go_enter Tryz.func172, Tryz.ntmps172
  go_wp2_with fail
  refine (HS.out _ K0.out).mono ?_; rintro e w3 ⟨q, rfl, hq, k3⟩
  have K3 := Lib.hid (K0.out.trans k3)
  have HQ := Lib.hid hq
  clear hq
  cases q with
  | false =>
    have HE := Lib.hid (HG0.out (fun hh => by have := HQ.out.2 hh; cases this))
    go_wp2_with fail
    go_ret2
    exact comesSays_of HE.out (ItemsOff.nil _ _) K3.out
  | true =>
    obtain ⟨he, hp⟩ := HG1.out (HQ.out.1 rfl)
    have HE := Lib.hid he
    have HP := Lib.hid hp
    have hcast : ((posI l r.item : Nat) : Int) + 1 = ((posI l r.item + 1 : Nat) : Int) := by omega
    have hw1 : IntKind.i64.wrap ((posI l r.item + 1 : Nat) : Int) = ((posI l r.item + 1 : Nat) : Int) := by rw [IntKind.wrap_i64]; omega
    clear he hp
    generalize posI l r.item + 1 = P1 at *
    go_wp2_with fail
    refine (HCL.out _ K3.out).mono ?_; rintro e w4 ⟨v4, rfl, r4, k4⟩
    have K4 := Lib.hid (K3.out.trans k4)
    have R4 := Lib.hid r4
    obtain ⟨p4, c4, rfl⟩ := own_shape r4
    clear r4
    go_wp2_with fail
    refine (HD.out _ _ _ R4.out HP.out).mono ?_; rintro e w5 ⟨v5, rfl, r5, hk5⟩
    have hk6 := kept_row K4.out (fun g hg => by have h1 := (World.ownsRow.lt R4.out g hg).1; have h2 := K3.out.size; omega) hk5
    have h5 := HIN.out _ w3.heap.size _ (fun x hx => Nat.lt_of_lt_of_le (HSX.out x hx) K3.out.size) HP.out r5 hk6
    have H5 := Lib.hid h5
    have K6 := Lib.hid hk6
    clear h5 hk6 r5 hk5
    go_wp2_with fail
    go_ret2
    exact comesSays_of HE.out H5.out K6.out
end Go.Proofs.YtdkimcnlhmhpgaaGreat
