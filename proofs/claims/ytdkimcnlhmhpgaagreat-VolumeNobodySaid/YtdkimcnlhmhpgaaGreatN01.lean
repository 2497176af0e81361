/- N01 -/
import Derived.Test.YtdkimcnlhmhpgaaGreatH49
import Derived.Laws.MakeOwn
import Derived.Maps.AppendAt
import Derived.Deep.AppendLies
import Derived.RegionTactic
import Derived.OwnWalk
import Derived.Laws.StructEq
import Derived.Deep.QuietTactic
import Derived.BigQuiet
set_option linter.unusedVariables false
set_option linter.unusedSimpArgs false
namespace Go.Proofs.YtdkimcnlhmhpgaaGreat
open Go.RowKit Go.Maps
theorem dLen_nil (w : World) : Calls Tryz.prog 36 #[.pointer none] w fun e w' => e = .returned (.int .i64 0) ∧ w = w' := by
  go_enter Tryz.func36, Tryz.ntmps36
  go_wp2_with fail
  go_ret
  exact ⟨rfl, rfl⟩
end Go.Proofs.YtdkimcnlhmhpgaaGreat
namespace Go.Proofs.YtdkimcnlhmhpgaaGreat
open Go.RowKit
theorem runs_ne_len {l m : List (Int × Int)} (h : l.length ≠ m.length) : (l == m) = false := by
  rw [beq_eq_false_iff_ne]; intro e; rw [e] at h; exact h rfl
theorem runs_ne_at {l m : List (Int × Int)} (k : Nat) (h1 : k < l.length) (h2 : k < m.length) (h : l[k] ≠ m[k]) : (l == m) = false := by
  rw [beq_eq_false_iff_ne]; intro e; subst e; exact h rfl
theorem runs_eq {l m : List (Int × Int)} (hl : l.length = m.length) (h : l.take l.length = m.take l.length) : (l == m) = true := by
  rw [beq_iff_eq]; rw [List.take_length] at h; rw [h, hl, List.take_length]
set_option maxRecDepth 100000 in
set_option maxHeartbeats 1000000 in
theorem rsameruns (va vb : Value) (l m : List (Int × Int)) (lo hi lo' hi' : Nat) (w : World) (h : RunsIn w va l lo hi) (h' : RunsIn w vb m lo' hi') (hl : l.length ≤ 1000000) (hm : m.length ≤ 1000000) :
    Calls Tryz.prog 68 #[va, vb] w fun e w' => e = .returned (.bool (l == m)) ∧ Kept [] w w' := by
  obtain ⟨p, c, rfl⟩ := h.shape
  obtain ⟨p', c', rfl⟩ := h'.shape
  by_cases hne : l.length = m.length
  · have hq : ((l.length : Int) == (m.length : Int)) = true := by simp; omega
    have HQ := Lib.hid hne
    clear hne
    go_enter Tryz.func68, Tryz.ntmps68
    go_wp2_with fail
    go_loopw [5] (fun i wr => ∃ k : Nat, k ≤ l.length ∧ i = .int .i64 k ∧ Aside (l.take k = m.take k) ∧ Kept [] w wr) (fun i _ => l.length - (intOf i).toNat)
    case atStart => exact ⟨0, by omega, rfl, by simp [Aside], Kept.refl _ _⟩
    case round =>
      obtain ⟨k, hk, rfl, hA, hK⟩ := hrel
      by_cases hlt : k < l.length
      · have hlm : k < m.length := by have := HQ.out; omega
        obtain ⟨b, off, rfl, c0, c1, hb, hlc, hcm⟩ := (h.kept0 hK).at_ k hlt
        obtain ⟨b', off', rfl, c0', c1', hb', hlc', hcm'⟩ := (h'.kept0 hK).at_ k hlm
        have i1 : (k : Int) < l.length := by omega
        have i2 : (k : Int) < m.length := by omega
        have hno : l[k] ≠ m[k] → (l == m) = false := runs_ne_at k hlt hlm
        have hst : l[k] = m[k] → Aside (l.take (k + 1) = m.take (k + 1)) := fun e => by
          show _ = _
          rw [List.take_succ_eq_append_getElem hlt, List.take_succ_eq_append_getElem hlm, hA.out, e]
        generalize l[k] = a at *
        generalize m[k] = a' at *
        by_cases e1 : a.1 = a'.1
        · by_cases e2 : a.2 = a'.2
          · have e3 : a = a' := Prod.ext e1 e2
            have HT := hst e3
            subst e3
            clear hno hst e1 e2 hA
            go_wp2_with fail
            go_region
            all_goals go_wp2_with fail
            all_goals go_roundw
            case rel => exact ⟨k + 1, by omega, by go_num, HT, hK.drew⟩
            case measure => simp [intOf]; omega
          · have HN : Hid ((l == m) = false) := hno (fun e => e2 (by rw [e]))
            clear hno hst hA
            rw [← e1] at c0'
            clear e1
            go_wp2_with fail
            go_region
            all_goals go_wp2_with fail
            all_goals go_ret
            all_goals exact ⟨by rw [HN.out]; rfl, hK.drew⟩
        · have HN : Hid ((l == m) = false) := hno (fun e => e1 (by rw [e]))
          clear hno hst hA
          go_wp2_with fail
          go_region
          all_goals go_wp2_with fail
          all_goals go_ret
          all_goals exact ⟨by rw [HN.out]; rfl, hK.drew⟩
      · obtain rfl : k = l.length := by omega
        have HY : Hid ((l == m) = true) := runs_eq HQ.out hA.out
        clear hA
        go_wp2_with fail
        go_ret
        exact ⟨by rw [HY.out]; rfl, hK⟩
  · have hq : ((l.length : Int) == (m.length : Int)) = false := by simp; omega
    have HN : Hid ((l == m) = false) := runs_ne_len hne
    clear hne
    go_enter Tryz.func68, Tryz.ntmps68
    go_wp2_with fail
    go_ret
    exact ⟨by rw [HN.out]; rfl, Kept.refl _ _⟩
def SB.same (a b : SB) : Bool := a.seq == b.seq && a.sectors == b.sectors && a.journal == b.journal && a.used == b.used && a.size == b.size && a.runs == b.runs
theorem seq_beq (a b : Nat) : ((a : Int) == (b : Int)) = (a == b) := by
  rw [Bool.eq_iff_iff, beq_iff_eq, beq_iff_eq]; omega
theorem SB.num5 (a b : SB) : (((a.seq : Int) == (b.seq : Int)) = false ∧ a.same b = false) ∨ (((a.seq : Int) == (b.seq : Int)) = true ∧ (a.sectors == b.sectors) = false ∧ a.same b = false) ∨
    (((a.seq : Int) == (b.seq : Int)) = true ∧ (a.sectors == b.sectors) = true ∧ (a.journal == b.journal) = false ∧ a.same b = false) ∨
    (((a.seq : Int) == (b.seq : Int)) = true ∧ (a.sectors == b.sectors) = true ∧ (a.journal == b.journal) = true ∧ (a.used == b.used) = false ∧ a.same b = false) ∨
    (((a.seq : Int) == (b.seq : Int)) = true ∧ (a.sectors == b.sectors) = true ∧ (a.journal == b.journal) = true ∧ (a.used == b.used) = true ∧ (a.size == b.size) = false ∧ a.same b = false) ∨
    (((a.seq : Int) == (b.seq : Int)) = true ∧ (a.sectors == b.sectors) = true ∧ (a.journal == b.journal) = true ∧ (a.used == b.used) = true ∧ (a.size == b.size) = true ∧ a.same b = (a.runs == b.runs)) := by
  unfold SB.same
  rw [seq_beq]
  cases a.seq == b.seq <;> cases a.sectors == b.sectors <;> cases a.journal == b.journal <;> cases a.used == b.used <;> cases a.size == b.size <;> simp
set_option maxRecDepth 100000 in
set_option maxHeartbeats 2000000 in
theorem rsame (a b : SB) (va vb : Value) (lo hi lo' hi' : Nat) (w : World) (h : RunsIn w va a.runs lo hi) (h' : RunsIn w vb b.runs lo' hi') (hl : a.runs.length ≤ 1000000) (hm : b.runs.length ≤ 1000000) :
    Calls Tryz.prog 20 #[.agg (a.cells va), .agg (b.cells vb)] w fun e w' => e = .returned (.bool (a.same b)) ∧ Kept [] w w' := by
  have hc := SB.num5 a b
  have hq := fun w' (hk : Kept [] w w') => rsameruns va vb a.runs b.runs lo hi lo' hi' w' (h.kept0 hk) (h'.kept0 hk) hl hm
  have HQ := Lib.hid hq
  obtain ⟨p, c, rfl⟩ := h.shape
  obtain ⟨p', c', rfl⟩ := h'.shape
  clear hq h h'
  obtain ⟨o1, o2⟩ := own_two w (a.cells (.slice p a.runs.length c)) (b.cells (.slice p' b.runs.length c')) 58 58
  unfold SB.cells at *
  rcases hc with ⟨e1, hx⟩ | ⟨e1, e2, hx⟩ | ⟨e1, e2, e3, hx⟩ | ⟨e1, e2, e3, e4, hx⟩ | ⟨e1, e2, e3, e4, e5, hx⟩ | ⟨e1, e2, e3, e4, e5, hx⟩
  case inr.inr.inr.inr.inr =>
    have HX := Lib.hid hx
    clear hx
    go_enter Tryz.func20, Tryz.ntmps20
    go_wp2_with fail
    refine (HQ.out _ (((Kept.refl _ _).alloc _).alloc _)).mono ?_; rintro e w1 ⟨rfl, hk⟩
    go_wp2_with fail
    go_ret
    exact ⟨by rw [HX.out]; rfl, (((Kept.refl _ _).alloc _).alloc _).trans hk⟩
  all_goals
    have HX := Lib.hid hx
    clear hx
    go_enter Tryz.func20, Tryz.ntmps20
    go_wp2_with fail
    go_ret
    exact ⟨by rw [HX.out]; rfl, ((Kept.refl _ _).alloc _).alloc _⟩
end Go.Proofs.YtdkimcnlhmhpgaaGreat
namespace Go.Proofs.YtdkimcnlhmhpgaaGreat
open Go.RowKit
def JItem.same (a b : JItem) : Bool := a.id == b.id && (a.name == b.name && (a.size == b.size && a.runs == b.runs))
theorem JItem.same_iff {a b : JItem} : a.same b = true ↔ a = b := by
  obtain ⟨a1, a2, a3, a4⟩ := a
  obtain ⟨b1, b2, b3, b4⟩ := b
  unfold JItem.same
  simp
theorem JItem.four (a b : JItem) : ((a.id == b.id) = false ∧ a.same b = false) ∨ ((a.id == b.id) = true ∧ (a.name == b.name) = false ∧ a.same b = false) ∨ ((a.id == b.id) = true ∧ (a.name == b.name) = true ∧ (a.size == b.size) = false ∧ a.same b = false) ∨ ((a.id == b.id) = true ∧ (a.name == b.name) = true ∧ (a.size == b.size) = true ∧ a.same b = (a.runs == b.runs)) := by
  unfold JItem.same
  cases a.id == b.id <;> cases a.name == b.name <;> cases a.size == b.size <;> simp
end Go.Proofs.YtdkimcnlhmhpgaaGreat
namespace Go.Proofs.YtdkimcnlhmhpgaaGreat
open Go.RowKit
theorem take_same {l m : List JItem} {k : Nat} (hl : k < l.length) (hm : k < m.length) (h : l.take k = m.take k) (he : l[k] = m[k]) : l.take (k + 1) = m.take (k + 1) := by
  rw [List.take_succ_eq_append_getElem hl, List.take_succ_eq_append_getElem hm, h, he]
theorem JCat.six (a b : JCat) : ((a.nextBox == b.nextBox) = false ∧ a ≠ b) ∨ ((a.nextBox == b.nextBox) = true ∧ (a.nextMan == b.nextMan) = false ∧ a ≠ b) ∨ ((a.nextBox == b.nextBox) = true ∧ (a.nextMan == b.nextMan) = true ∧ (a = b ↔ a.boxes = b.boxes ∧ a.mans = b.mans ∧ a.names = b.names)) := by
  obtain ⟨a1, a2, a3, a4, a5⟩ := a
  obtain ⟨b1, b2, b3, b4, b5⟩ := b
  by_cases h1 : a1 = b1
  · by_cases h2 : a2 = b2
    · exact Or.inr (Or.inr ⟨by simpa using h1, by simpa using h2, by simp [h1, h2]⟩)
    · exact Or.inr (Or.inl ⟨by simpa using h1, by simpa using h2, by simp [h2]⟩)
  · exact Or.inl ⟨by simpa using h1, by simp [h1]⟩
end Go.Proofs.YtdkimcnlhmhpgaaGreat
namespace Go.Proofs.YtdkimcnlhmhpgaaGreat
open Go.RowKit
set_option maxRecDepth 100000 in
theorem uformat_nil (j : Int) (w : World) (hj : (Lit.int .i64 j).wf = true) : Calls Tryz.prog 10 #[.pointer none, .int .i64 j] w fun e w' => e = .returned (.tuple #[.pointer none, .int .i64 4]) ∧ w = w' := by
  go_enter Tryz.func10, Tryz.ntmps10
  go_wp2_with fail
  refine (dLen_nil _).mono ?_; rintro e w' ⟨rfl, rfl⟩
  go_wp2_with fail
  go_ret2
  exact ⟨rfl, rfl⟩
end Go.Proofs.YtdkimcnlhmhpgaaGreat
namespace Go.Proofs.YtdkimcnlhmhpgaaGreat
open Go.RowKit
theorem ucheck_nil (w : World) : Calls Tryz.prog 42 #[.pointer none] w fun e w' => e = .returned (.int .i64 4) ∧ w = w' := by
  go_enter Tryz.func42, Tryz.ntmps42
  go_wp2_with fail
  go_ret
  exact ⟨rfl, rfl⟩
end Go.Proofs.YtdkimcnlhmhpgaaGreat
namespace Go.Proofs.YtdkimcnlhmhpgaaGreat
open Go.RowKit
set_option maxRecDepth 100000 in
set_option maxHeartbeats 4000000 in
theorem qsameItem (a b : JItem) (va vb : Value) (w : World) (h : ItemOk w (a, va)) (h' : ItemOk w (b, vb)) (hl : a.runs.length ≤ 1000000) (hm : b.runs.length ≤ 1000000) :
    Calls Tryz.prog 126 #[.agg (a.cells va), .agg (b.cells vb)] w fun e w' => e = .returned (.bool (a.same b)) ∧ Kept [] w w' := by
  have hc := JItem.four a b
  have hq := fun w' (hk : Kept [] w w') => rsameruns va vb a.runs b.runs _ _ _ _ w' (h.1.kept0 hk) (h'.1.kept0 hk) hl hm
  have HQ := Lib.hid hq
  obtain ⟨pa, ca, e1⟩ := h.1.shape
  obtain ⟨pb, cb, e2⟩ := h'.1.shape
  simp only at e1 e2
  subst e1 e2
  obtain ⟨aid, an, asz, ar⟩ := a
  obtain ⟨bid, bn, bsz, br⟩ := b
  simp only at hc HQ hl hm
  unfold JItem.cells
  simp only
  generalize JItem.same ⟨aid, an, asz, ar⟩ ⟨bid, bn, bsz, br⟩ = SM at *
  have k0 := ((Kept.refl [] w).alloc (.cells #[.int .u32 aid, .string (bs an), .int .i64 asz, .slice pa ar.length ca] 113)).alloc (.cells #[.int .u32 bid, .string (bs bn), .int .i64 bsz, .slice pb br.length cb] 113)
  obtain ⟨oA, oB⟩ := own_two w #[.int .u32 aid, .string (bs an), .int .i64 asz, .slice pa ar.length ca] #[.int .u32 bid, .string (bs bn), .int .i64 bsz, .slice pb br.length cb] 113 113
  obtain ⟨a0, a1, a2, a3⟩ := oA.c4
  obtain ⟨b0, b1, b2, b3⟩ := oB.c4
  have K0 := Lib.hid k0
  have hq0 := HQ.out _ k0
  have HQ0 := Lib.hid hq0
  clear h h' hq oA oB k0 hq0 HQ
  rcases hc with ⟨h1, rfl⟩ | ⟨h1, h2, rfl⟩ | ⟨h1, h2, h3, rfl⟩ | ⟨h1, h2, h3, rfl⟩
  · skip
    go_enter Tryz.func126, Tryz.ntmps126
    go_wp2_with fail
    go_ret
    exact ⟨rfl, K0.out⟩
  · obtain ⟨g1, g2⟩ := bsI_forms an bn h2
    go_enter Tryz.func126, Tryz.ntmps126
    go_wp2_with fail
    go_ret
    exact ⟨rfl, K0.out⟩
  · obtain ⟨g1, g2⟩ := bsI_forms an bn h2
    go_enter Tryz.func126, Tryz.ntmps126
    go_wp2_with fail
    go_ret
    exact ⟨rfl, K0.out⟩
  · obtain ⟨g1, g2⟩ := bsI_forms an bn h2
    go_enter Tryz.func126, Tryz.ntmps126
    go_wp2_with fail
    refine HQ0.out.mono ?_; rintro e w2 ⟨rfl, k2⟩
    have KK := Lib.hid (K0.out.trans k2)
    go_wp2_with fail
    go_ret
    exact ⟨rfl, KK.out⟩
end Go.Proofs.YtdkimcnlhmhpgaaGreat
namespace Go.Proofs.YtdkimcnlhmhpgaaGreat
open Go.RowKit
set_option maxRecDepth 100000 in
set_option maxHeartbeats 4000000 in
theorem qsameItems (va vb : Value) (l m : List JItem) (w : World) (h : ItemsIn w va l) (h' : ItemsIn w vb m) (hl : SmallL l) (hm : SmallL m) :
    Calls Tryz.prog 66 #[va, vb] w (EqSays (l = m) w) := by
  obtain ⟨pa, ca, rfl⟩ := h.shape
  obtain ⟨pb, cb, rfl⟩ := h'.shape
  have H := Lib.hid h
  have H2 := Lib.hid h'
  have HL := Lib.hid hl
  have HM := Lib.hid hm
  have j1 : (l.length : Int) ≤ 1000000 := by have := hl.1; omega
  have j2 : (m.length : Int) ≤ 1000000 := by have := hm.1; omega
  have hsm := qsameItem
  have HSM := Lib.hid hsm
  clear h h' hl hm hsm
  by_cases hne : l.length = m.length
  · have hne3 : Hid (l.length = m.length) := Lib.hid hne
    rw [← hne]
    clear hne j2
    go_enter Tryz.func66, Tryz.ntmps66
    go_wp2_with fail
    go_loopw [5] (fun i wr => ∃ k : Nat, k ≤ l.length ∧ i = .int .i64 k ∧ l.take k = m.take k ∧ Kept [] w wr) (fun i _ => l.length - (intOf i).toNat)
    case atStart => exact ⟨0, Nat.zero_le _, rfl, rfl, Kept.refl _ _⟩
    case round =>
      obtain ⟨k, hk, rfl, htk, hK⟩ := hrel
      by_cases hlt : k < l.length
      · have hlt2 : k < m.length := by have := hne3.out; omega
        obtain ⟨b, off, kva, rfl, hia, hb, hc1, hc2, HA⟩ := H.out.at4 k hlt
        obtain ⟨b', off', kvb, rfl, hib, hb', hc1', hc2', HB⟩ := H2.out.at4 k hlt2
        have hsame := fun W (q : Kept [] w W) => HSM.out (l[k]'hlt) (m[k]'hlt2) kva kvb W (hia.kept0 q) (hib.kept0 q) (HL.out.2 _ (List.getElem_mem hlt)) (HM.out.2 _ (List.getElem_mem hlt2))
        obtain ⟨p1, n1, c1, rfl⟩ := hia.slv
        obtain ⟨p2, n2, c2, rfl⟩ := hib.slv
        obtain ⟨S, hS⟩ : ∃ S, JItem.same (l[k]'hlt) (m[k]'hlt2) = S := ⟨_, rfl⟩
        have hSe : S = true ↔ l[k]'hlt = m[k]'hlt2 := by rw [← hS]; exact JItem.same_iff
        simp only [hS] at hsame
        have i1 : (k : Int) < l.length := by omega
        unfold JItem.cells at hsame
        have HSA := Lib.hid hsame
        have HSE := Lib.hid hSe
        have HTK := Lib.hid htk
        have HKK := Lib.hid hK
        have HA2 := Lib.hid HA
        have HB2 := Lib.hid HB
        clear hia hib hsame hS hSe htk hK HA HB hb hb'
        generalize hLA : l[k]'hlt = A at *
        generalize hLB : m[k]'hlt2 = B at *
        have HLA := Lib.hid hLA
        have HLB := Lib.hid hLB
        have HLT := Lib.hid (And.intro hlt hlt2)
        clear hLA hLB
        go_wp2_with fail
        refine wp_region_held_drew (S := (fun W => W.cell? ⟨b, off + k * 4, none⟩ = some (.int .u32 A.id) ∧ W.cell? ⟨b, off + k * 4 + 1, none⟩ = some (.string (bs A.name)) ∧ W.cell? ⟨b, off + k * 4 + 2, none⟩ = some (.int .i64 A.size) ∧ W.cell? ⟨b, off + k * 4 + 3, none⟩ = some (.slice p1 n1 c1) ∧ W.cell? ⟨b', off' + k * 4, none⟩ = some (.int .u32 B.id) ∧ W.cell? ⟨b', off' + k * 4 + 1, none⟩ = some (.string (bs B.name)) ∧ W.cell? ⟨b', off' + k * 4 + 2, none⟩ = some (.int .i64 B.size) ∧ W.cell? ⟨b', off' + k * 4 + 3, none⟩ = some (.slice p2 n2 c2))) (by kernel_rfl) (by (obtain ⟨x0, x1, x2, x3⟩ := HA2.out _ HKK.out.drew; obtain ⟨y0, y1, y2, y3⟩ := HB2.out _ HKK.out.drew; exact ⟨x0, x1, x2, x3, y0, y1, y2, y3⟩)) (fun hHeld => ?_)
        refine take_at (i := 0) (d := some 17) (v := ?_) rfl rfl (by kernel_rfl) (by kernel_rfl) (by kernel_rfl) (fun _ _ _ h => h) (Or.inl ⟨by rfl, ?_⟩) (by assumption) ?_
        rotate_left
        · (intro w hSw; (try dsimp only at hSw); go_simp; try with_reducible rfl)
        try simp only [Act.put, List.setIfInBounds_toArray, List.set_cons_zero, List.set_cons_succ]
        refine take_at (i := 1) (d := some 18) (v := ?_) rfl rfl (by kernel_rfl) (by kernel_rfl) (by kernel_rfl) (fun _ _ _ h => h) (Or.inl ⟨by rfl, ?_⟩) (by assumption) ?_
        rotate_left
        · (intro w hSw; (try dsimp only at hSw); go_simp; try with_reducible rfl)
        try simp only [Act.put, List.setIfInBounds_toArray, List.set_cons_zero, List.set_cons_succ]
        refine take_at (i := 2) (d := some 19) (v := ?_) rfl rfl (by kernel_rfl) (by kernel_rfl) (by kernel_rfl) (fun _ _ _ h => h) (Or.inl ⟨by rfl, ?_⟩) (by assumption) ?_
        rotate_left
        · (intro w hSw; (try dsimp only at hSw); go_simp; try with_reducible rfl)
        try simp only [Act.put, List.setIfInBounds_toArray, List.set_cons_zero, List.set_cons_succ]
        refine take_at (i := 3) (d := some 20) (v := ?_) rfl rfl (by kernel_rfl) (by kernel_rfl) (by kernel_rfl) (fun _ _ _ h => h) (Or.inl ⟨by rfl, ?_⟩) (by assumption) ?_
        rotate_left
        · (intro w hSw; (try dsimp only at hSw); go_simp; try with_reducible rfl)
        try simp only [Act.put, List.setIfInBounds_toArray, List.set_cons_zero, List.set_cons_succ]
        refine take_at (i := 4) (d := some 21) (v := ?_) rfl rfl (by kernel_rfl) (by kernel_rfl) (by kernel_rfl) (fun _ _ _ h => h) (Or.inl ⟨by rfl, ?_⟩) (by assumption) ?_
        rotate_left
        · (intro w hSw; (try dsimp only at hSw); go_simp; try with_reducible rfl)
        try simp only [Act.put, List.setIfInBounds_toArray, List.set_cons_zero, List.set_cons_succ]
        refine take_at (i := 5) (d := some 22) (v := ?_) rfl rfl (by kernel_rfl) (by kernel_rfl) (by kernel_rfl) (fun _ _ _ h => h) (Or.inl ⟨by rfl, ?_⟩) (by assumption) ?_
        rotate_left
        · (intro w hSw; (try dsimp only at hSw); go_simp; try with_reducible rfl)
        try simp only [Act.put, List.setIfInBounds_toArray, List.set_cons_zero, List.set_cons_succ]
        refine take_at (i := 6) (d := some 23) (v := ?_) rfl rfl (by kernel_rfl) (by kernel_rfl) (by kernel_rfl) (fun _ _ _ h => h) (Or.inl ⟨by rfl, ?_⟩) (by assumption) ?_
        rotate_left
        · (intro w hSw; (try dsimp only at hSw); go_simp; try with_reducible rfl)
        try simp only [Act.put, List.setIfInBounds_toArray, List.set_cons_zero, List.set_cons_succ]
        refine take_at (i := 7) (d := some 24) (v := ?_) rfl rfl (by kernel_rfl) (by kernel_rfl) (by kernel_rfl) (fun _ _ _ h => h) (Or.inl ⟨by rfl, ?_⟩) (by assumption) ?_
        rotate_left
        · (intro w hSw; (try dsimp only at hSw); go_simp; try with_reducible rfl)
        try simp only [Act.put, List.setIfInBounds_toArray, List.set_cons_zero, List.set_cons_succ]
        refine wpAnyH_ready (rs := [8]) (by kernel_rfl) (by simp) ?_
        refine (AllReadyH.cons rfl (fun K hK => ?_) AllReadyH.nil)
        go_simp
        ((with_reducible refine (HSA.out _ HKK.out.drew).mono ?_)); rintro e w2 ⟨rfl, k2⟩
        have KK := Lib.hid (HKK.out.drew.trans k2)
        go_wp2_with fail
        refine hK.out _ _ ?_ (fun hHeld => ?_)
        · (obtain ⟨x0, x1, x2, x3⟩ := HA2.out _ KK.out; obtain ⟨y0, y1, y2, y3⟩ := HB2.out _ KK.out; exact ⟨x0, x1, x2, x3, y0, y1, y2, y3⟩)
        clear hK K
        try simp only [Act.put, List.setIfInBounds_toArray, List.set_cons_zero, List.set_cons_succ]
        refine take_at (i := 9) (d := some 26) (v := ?_) rfl rfl (by kernel_rfl) (by kernel_rfl) (by kernel_rfl) (fun _ _ _ h => h) (Or.inl ⟨by rfl, ?_⟩) (by assumption) ?_
        rotate_left
        · (intro w hSw; (try dsimp only at hSw); go_simp; try with_reducible rfl)
        try simp only [Act.put, List.setIfInBounds_toArray, List.set_cons_zero, List.set_cons_succ]
        refine wpAnyH_done (by kernel_rfl) ?_ _
        cases S with
        | true =>
          go_wp2_with fail
          go_roundw
          case rel => exact ⟨k + 1, HLT.out.1, by go_num, take_same HLT.out.1 HLT.out.2 HTK.out (by rw [HLA.out, HLB.out]; exact HSE.out.1 (by simp)), KK.out⟩
          case measure => (have h := HLT.out.1; simp [intOf]; omega)
        | false =>
          go_wp2_with fail
          go_ret
          exact eqSays_no (fun e => by subst e; have h1 := HLA.out; have h2 := HLB.out; rw [h1] at h2; have := HSE.out.2 h2; cases this) KK.out
      · obtain rfl : k = l.length := by omega
        have he : l = m := by
          rw [List.take_length, hne3.out, List.take_length] at htk
          exact htk
        have HE := Lib.hid he
        have i1 : ¬ (l.length : Int) < l.length := by omega
        clear htk he
        go_wp2_with fail
        go_ret
        exact eqSays_yes HE.out hK
  · have hne2 : ¬ (l.length : Int) = m.length := by omega
    have HNE := Lib.hid hne
    clear hne
    go_enter Tryz.func66, Tryz.ntmps66
    go_wp2_with fail
    go_ret
    exact eqSays_no (fun e => HNE.out (by rw [e])) (Kept.refl _ _)
set_option maxRecDepth 100000 in
set_option maxHeartbeats 4000000 in
theorem qcatSame (va vb : Value) (a b : JCat) (w : World) (h : CatIn w va a) (h' : CatIn w vb b) (hl : SmallC a) (hm : SmallC b) :
    Calls Tryz.prog 18 #[va, vb] w (EqSays (a = b) w) := by
  have hc := JCat.six a b
  obtain ⟨b1, m1, n1, rfl, hb1, hm1, hn1, _⟩ := h
  obtain ⟨b2, m2, n2, rfl, hb2, hm2, hn2, _⟩ := h'
  have HB : Hid (∀ W, Kept [] w W → Calls Tryz.prog 66 #[b1, b2] W (EqSays (a.boxes = b.boxes) W)) := Lib.hid (fun W q => qsameItems _ _ _ _ W (hb1.kept0 q) (hb2.kept0 q) hl.1 hm.1)
  have HM : Hid (∀ W, Kept [] w W → Calls Tryz.prog 66 #[m1, m2] W (EqSays (a.mans = b.mans) W)) := Lib.hid (fun W q => qsameItems _ _ _ _ W (hm1.kept0 q) (hm2.kept0 q) hl.2.1 hm.2.1)
  have HN : Hid (∀ W, Kept [] w W → Calls Tryz.prog 66 #[n1, n2] W (EqSays (a.names = b.names) W)) := Lib.hid (fun W q => qsameItems _ _ _ _ W (hn1.kept0 q) (hn2.kept0 q) hl.2.2 hm.2.2)
  obtain ⟨p1, c1, rfl⟩ := hb1.shape
  obtain ⟨p2, c2, rfl⟩ := hm1.shape
  obtain ⟨p3, c3, rfl⟩ := hn1.shape
  obtain ⟨q1, d1, rfl⟩ := hb2.shape
  obtain ⟨q2, d2, rfl⟩ := hm2.shape
  obtain ⟨q3, d3, rfl⟩ := hn2.shape
  unfold EqSays at HB HM HN
  clear hb1 hm1 hn1 hb2 hm2 hn2 hl hm
  obtain ⟨Q, hQ⟩ : ∃ Q : Prop, (a = b) = Q := ⟨_, rfl⟩
  obtain ⟨QB, hQB⟩ : ∃ Q : Prop, (a.boxes = b.boxes) = Q := ⟨_, rfl⟩
  obtain ⟨QM, hQM⟩ : ∃ Q : Prop, (a.mans = b.mans) = Q := ⟨_, rfl⟩
  obtain ⟨QN, hQN⟩ : ∃ Q : Prop, (a.names = b.names) = Q := ⟨_, rfl⟩
  have HQ0 : Hid (((a.nextBox == b.nextBox) = false ∧ ¬ Q) ∨ ((a.nextBox == b.nextBox) = true ∧ (a.nextMan == b.nextMan) = false ∧ ¬ Q) ∨ ((a.nextBox == b.nextBox) = true ∧ (a.nextMan == b.nextMan) = true ∧ (Q ↔ QB ∧ QM ∧ QN))) := by
    rw [← hQ, ← hQB, ← hQM, ← hQN]; exact hc
  rw [hQ]
  rw [hQB] at HB
  rw [hQM] at HM
  rw [hQN] at HN
  clear hc hQ hQB hQM hQN
  generalize a.nextBox = nb at *
  generalize a.nextMan = nm at *
  generalize b.nextBox = nb2 at *
  generalize b.nextMan = nm2 at *
  generalize a.boxes.length = l1 at *
  generalize a.mans.length = l2 at *
  generalize a.names.length = l3 at *
  generalize b.boxes.length = l4 at *
  generalize b.mans.length = l5 at *
  generalize b.names.length = l6 at *
  obtain ⟨oA, oB⟩ := own_two w #[.int .u32 nb, .int .u32 nm, .slice p1 l1 c1, .slice p2 l2 c2, .slice p3 l3 c3] #[.int .u32 nb2, .int .u32 nm2, .slice q1 l4 d1, .slice q2 l5 d2, .slice q3 l6 d3] 52 52
  have k0 := ((Kept.refl [] w).alloc (.cells #[.int .u32 nb, .int .u32 nm, .slice p1 l1 c1, .slice p2 l2 c2, .slice p3 l3 c3] 52)).alloc (.cells #[.int .u32 nb2, .int .u32 nm2, .slice q1 l4 d1, .slice q2 l5 d2, .slice q3 l6 d3] 52)
  have K0 := Lib.hid k0
  obtain ⟨x0, x1, x2, x3, x4⟩ := oA.k5
  obtain ⟨y0, y1, y2, y3, y4⟩ := oB.k5
  have OA := Lib.hid oA
  have OB := Lib.hid oB
  clear k0 oA oB
  rcases HQ0.out with ⟨h1, h2⟩ | ⟨h1, h3, h2⟩ | ⟨h1, h3, h2⟩
  · have HN2 := Lib.hid h2
    clear h2 HQ0
    go_enter Tryz.func18, Tryz.ntmps18
    go_wp2_with fail
    go_ret
    exact eqSays_no HN2.out K0.out
  · have HN2 := Lib.hid h2
    clear h2 HQ0
    go_enter Tryz.func18, Tryz.ntmps18
    go_wp2_with fail
    go_ret
    exact eqSays_no HN2.out K0.out
  · have HQ2 := Lib.hid h2
    clear h2 HQ0
    go_enter Tryz.func18, Tryz.ntmps18
    go_wp2_with fail
    refine (HB.out _ K0.out).mono ?_; rintro e w2 ⟨r1, rfl, e1, k2⟩
    have K2 := Lib.hid (K0.out.trans k2)
    have E1 := Lib.hid e1
    have oA2 := k2.own OA.out (by simp)
    have oB2 := k2.own OB.out (by simp)
    obtain ⟨x0, x1, x2, x3, x4⟩ := oA2.k5
    obtain ⟨y0, y1, y2, y3, y4⟩ := oB2.k5
    have OA2 := Lib.hid oA2
    have OB2 := Lib.hid oB2
    clear e1 oA2 oB2
    cases r1 with
    | false =>
      go_wp2_with fail
      go_ret
      exact eqSays_no (fun q => by have := E1.out.2 (HQ2.out.1 q).1; cases this) K2.out
    | true =>
      go_wp2_with fail
      refine (HM.out _ K2.out).mono ?_; rintro e w3 ⟨r2, rfl, e2, k3⟩
      have K3 := Lib.hid (K2.out.trans k3)
      have E2 := Lib.hid e2
      have oA3 := k3.own OA2.out (by simp)
      have oB3 := k3.own OB2.out (by simp)
      obtain ⟨x0, x1, x2, x3, x4⟩ := oA3.k5
      obtain ⟨y0, y1, y2, y3, y4⟩ := oB3.k5
      clear e2 oA3 oB3
      cases r2 with
      | false =>
        go_wp2_with fail
        go_ret
        exact eqSays_no (fun q => by have := E2.out.2 (HQ2.out.1 q).2.1; cases this) K3.out
      | true =>
        go_wp2_with fail
        refine (HN.out _ K3.out).mono ?_; rintro e w4 ⟨r3, rfl, e3, k4⟩
        have K4 := Lib.hid (K3.out.trans k4)
        have E3 := Lib.hid e3
        clear e3
        go_wp2_with fail
        go_ret
        exact ⟨r3, rfl, ⟨fun q => HQ2.out.2 ⟨E1.out.1 (by simp), E2.out.1 (by simp), E3.out.1 q⟩, fun q => E3.out.2 (HQ2.out.1 q).2.2⟩, K4.out⟩
end Go.Proofs.YtdkimcnlhmhpgaaGreat
namespace Go.Proofs.YtdkimcnlhmhpgaaGreat
open Go.RowKit
theorem umount_nil (w : World) : Calls Tryz.prog 16 #[.pointer none] w fun e w' => e = .returned (.tuple #[.pointer none, .int .i64 4]) ∧ w = w' := by
  go_enter Tryz.func16, Tryz.ntmps16
  go_wp2_with fail
  refine (dLen_nil _).mono ?_; rintro e w' ⟨rfl, rfl⟩
  go_wp2_with fail
  go_ret2
  exact ⟨rfl, rfl⟩
set_option maxRecDepth 100000 in
theorem uread_nil (k id : Int) (s : ByteArray) (w : World) : Calls Tryz.prog 15 #[.pointer none, .int .i64 k, .int .u32 id, .string s] w fun e w' => e = .returned (.tuple #[.string { data := #[] }, .int .i64 4]) ∧ w = w' := by
  go_enter Tryz.func15, Tryz.ntmps15
  go_wp2_with fail
  refine (ucheck_nil _).mono ?_; rintro e w' ⟨rfl, rfl⟩
  go_wp2_with fail
  go_ret2
  exact ⟨rfl, rfl⟩
theorem ufree_nil (w : World) : Calls Tryz.prog 17 #[.pointer none] w fun e w' => e = .returned (.int .i64 0) ∧ w = w' := by
  go_enter Tryz.func17, Tryz.ntmps17
  go_wp2_with fail
  go_ret
  exact ⟨rfl, rfl⟩
set_option maxRecDepth 100000 in
theorem uchange_nil (v : Value) (w : World) : Calls Tryz.prog 11 #[.pointer none, v] w fun e w' => e = .returned (.int .i64 4) ∧ Kept [] w w' := by
  have o := (Own.new w #[.pointer none] 27).cell 0 (by simp)
  simp only [List.getElem_toArray, List.getElem_cons_zero] at o
  go_enter Tryz.func11, Tryz.ntmps11
  go_wp2_with fail
  refine (ucheck_nil _).mono ?_; rintro e w' ⟨rfl, rfl⟩
  go_wp2_with fail
  go_ret
  exact ⟨rfl, (Kept.refl _ _).alloc _⟩
set_option maxRecDepth 100000 in
theorem ucheckpoint_nil (w : World) : Calls Tryz.prog 13 #[.pointer none] w fun e w' => e = .returned (.int .i64 4) ∧ w = w' := by
  go_enter Tryz.func13, Tryz.ntmps13
  go_wp2_with fail
  refine (ucheck_nil _).mono ?_; rintro e w' ⟨rfl, rfl⟩
  go_wp2_with fail
  go_ret
  exact ⟨rfl, rfl⟩
theorem ucat_nil (w : World) : Calls Tryz.prog 19 #[.pointer none] w fun e w' => e = .returned (.agg #[.int .u32 0, .int .u32 0, .slice none 0 0, .slice none 0 0, .slice none 0 0]) ∧ Kept [] w w' := by
  go_enter Tryz.func19, Tryz.ntmps19
  go_wp2_with fail
  refine bodyPost_ret (v := .agg #[.int .u32 0, .int .u32 0, .slice none 0 0, .slice none 0 0, .slice none 0 0]) (ret_row Tryz.results19 rfl (t := 52) ?_ Tryz.underlying52 rfl (by kernel_rfl)) rfl ⟨rfl, ?_⟩
  · first
      | exact Own.new w _ _
  · first
      | exact (Kept.refl _ _).alloc _
theorem usuper_nil (w : World) : Calls Tryz.prog 21 #[.pointer none] w fun e w' => e = .returned (.agg #[.int .u64 0, .int .i64 0, .int .i64 0, .int .i64 0, .int .i64 0, .slice none 0 0]) ∧ Kept [] w w' := by
  go_enter Tryz.func21, Tryz.ntmps21
  go_wp2_with fail
  refine bodyPost_ret (v := .agg #[.int .u64 0, .int .i64 0, .int .i64 0, .int .i64 0, .int .i64 0, .slice none 0 0]) (ret_row Tryz.results21 rfl (t := 58) ?_ Tryz.underlying58 rfl (by kernel_rfl)) rfl ⟨rfl, ?_⟩
  · first
      | exact Own.new w _ _
  · first
      | exact (Kept.refl _ _).alloc _
end Go.Proofs.YtdkimcnlhmhpgaaGreat
namespace Go.Proofs.YtdkimcnlhmhpgaaGreat
open Go.RowKit
set_option maxRecDepth 100000 in
set_option maxHeartbeats 4000000 in
theorem vnobodyLaw (j id : Int) (s : ByteArray) (w : World) (hj : (Lit.int .i64 j).wf = true) (hid : (Lit.int .u32 id).wf = true) (hs : s.size ≤ maxLen) :
    Calls Tryz.prog 4 #[.int .i64 j, .int .u32 id, .string s] w fun e w' => e = .returned (.bool true) ∧ Below w.heap.size w w' := by
  have HF : Hid (∀ W, Calls Tryz.prog 10 #[.pointer none, .int .i64 j] W fun e w' => e = .returned (.tuple #[.pointer none, .int .i64 4]) ∧ W = w') := Lib.hid (fun W => uformat_nil j W hj)
  have HC : Hid (∀ W, Calls Tryz.prog 18 #[.agg #[.int .u32 0, .int .u32 0, .slice none 0 0, .slice none 0 0, .slice none 0 0], .agg #[.int .u32 0, .int .u32 0, .slice none 0 0, .slice none 0 0, .slice none 0 0]] W fun e w' => e = .returned (.bool true) ∧ Kept [] W w') := Lib.hid (fun W => by
    have hc : CatIn W (.agg #[.int .u32 0, .int .u32 0, .slice none 0 0, .slice none 0 0, .slice none 0 0]) ⟨0, 0, [], [], []⟩ := ⟨_, _, _, rfl, (ItemsOff.nil (fun _ => False) W).plain, (ItemsOff.nil (fun _ => False) W).plain, (ItemsOff.nil (fun _ => False) W).plain, by decide, by decide⟩
    have hsm : SmallC ⟨0, 0, [], [], []⟩ := ⟨⟨by simp, fun a ha => by cases ha⟩, ⟨by simp, fun a ha => by cases ha⟩, ⟨by simp, fun a ha => by cases ha⟩⟩
    refine (qcatSame _ _ _ _ W hc hc hsm hsm).mono ?_
    rintro e w' ⟨b, rfl, hb, k⟩
    exact ⟨by rw [hb.2 rfl], k⟩)
  have HS : Hid (∀ W, Calls Tryz.prog 20 #[.agg #[.int .u64 0, .int .i64 0, .int .i64 0, .int .i64 0, .int .i64 0, .slice none 0 0], .agg #[.int .u64 0, .int .i64 0, .int .i64 0, .int .i64 0, .int .i64 0, .slice none 0 0]] W fun e w' => e = .returned (.bool true) ∧ Kept [] W w') := Lib.hid (fun W => rsame ⟨0, 0, 0, 0, 0, []⟩ ⟨0, 0, 0, 0, 0, []⟩ (.slice none 0 0) (.slice none 0 0) 0 0 0 0 W (Or.inl ⟨rfl, _, _, rfl⟩) (Or.inl ⟨rfl, _, _, rfl⟩) (by simp) (by simp))
  clear hs hj hid
  go_enter Tryz.func4, Tryz.ntmps4
  go_wp2_with fail
  refine (HF.out _).mono ?_; rintro e w' ⟨rfl, rfl⟩
  go_wp2_with fail
  refine (umount_nil _).mono ?_; rintro e w' ⟨rfl, rfl⟩
  go_wp2_with fail
  refine (uread_nil _ _ _ _).mono ?_; rintro e w' ⟨rfl, rfl⟩
  go_wp2_with fail
  refine (uchange_nil _ _).mono ?_; rintro e w1 ⟨rfl, k1⟩
  have K1 := Lib.hid ((((Kept.refl [] w).alloc _)).trans k1)
  clear k1
  go_wp2_with fail
  refine (ucheckpoint_nil _).mono ?_; rintro e w' ⟨rfl, rfl⟩
  go_wp2_with fail
  refine (ufree_nil _).mono ?_; rintro e w' ⟨rfl, rfl⟩
  go_wp2_with fail
  refine (ucat_nil _).mono ?_; rintro e w2 ⟨rfl, k2⟩
  have K2 := Lib.hid (K1.out.trans k2)
  clear k2
  go_wp2_with fail
  refine (HC.out _).mono ?_; rintro e w3 ⟨rfl, k3⟩
  have K3 := Lib.hid (K2.out.trans k3)
  clear k3
  go_wp2_with fail
  refine (usuper_nil _).mono ?_; rintro e w4 ⟨rfl, k4⟩
  have K4 := Lib.hid (K3.out.trans k4)
  clear k4
  go_wp2_with fail
  refine (HS.out _).mono ?_; rintro e w5 ⟨rfl, k5⟩
  have K5 := Lib.hid (K4.out.trans k5)
  clear k5
  go_wp2_with fail
  refine (uawake _).mono ?_; rintro e w6 ⟨rfl, k6⟩
  have K6 := Lib.hid (K5.out.trans k6)
  clear k6
  go_wp2_with fail
  go_ret
  exact ⟨rfl, K6.out.below⟩
end Go.Proofs.YtdkimcnlhmhpgaaGreat
