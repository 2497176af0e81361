/- Walks of the reference of layer 11 (super): which runs, which superblocks may be. -/
import Derived.Test.YtegbekeopgponaaG02
import Derived.Deep.RegionWith
import Derived.BigRegion
import Derived.Laws.StructEq
import Derived.Deep.QuietTactic
import Derived.BigQuiet
namespace Go.Proofs.Ytegbekeopgponaa
open Go.RowKit
set_option linter.unusedVariables false
set_option linter.unusedSimpArgs false

def RunsSays (f s : Int) (l : List (Int × Int)) (w : World) (e : Ending) (w' : World) : Prop := e = .returned (.bool (lies f s l && decide (l.length ≤ 16))) ∧ Kept [] w w'
theorem runsSays_no {f s : Int} {l : List (Int × Int)} {w w' : World} (h : lies f s l = false) (hk : Kept [] w w') : RunsSays f s l w (.returned (.bool false)) w' := by
  refine ⟨?_, hk⟩; rw [h]; rfl
theorem runsSays_yes {f s : Int} {l : List (Int × Int)} {w w' : World} (h : lies f s l = true) (hk : Kept [] w w') : RunsSays f s l w (.returned (.bool (decide ((l.length : Int) ≤ 16)))) w' := by
  refine ⟨?_, hk⟩
  rw [h, Bool.true_and]
  have : decide ((l.length : Int) ≤ 16) = decide (l.length ≤ 16) := by rw [decide_eq_decide]; omega
  rw [this]

set_option maxRecDepth 100000 in
set_option maxHeartbeats 1600000 in
theorem rruns (v : Value) (l : List (Int × Int)) (lo hi : Nat) (f s : Int) (w : World) (h : RunsIn w v l lo hi) (hl : l.length ≤ 1000000) (hf : 0 ≤ f) (hf2 : f ≤ 100000) (hs : 0 ≤ s) (hs2 : s ≤ 8192) :
    Calls Try.prog 59 #[v, .int .i64 f, .int .i64 s] w (RunsSays f s l w) := by
  obtain ⟨p, c, rfl⟩ := h.shape
  go_enter Try.func59, Try.ntmps59
  go_wp2_with fail
  go_loopw [7] (fun i wr => ∃ k : Nat, k ≤ l.length ∧ i = .int .i64 k ∧ Aside (lieTo f s l k = true) ∧ Kept [] w wr) (fun i _ => l.length - (intOf i).toNat)
  case atStart => exact ⟨0, by omega, rfl, rfl, Kept.refl _ _⟩
  case round =>
    obtain ⟨k, hk, rfl, hL, hK⟩ := hrel
    by_cases hlt : k < l.length
    · obtain ⟨b, off, rfl, c0, c1, hb, hlc, hcm⟩ := (h.kept0 hK).at_ k hlt
      unfold maxLen at hcm
      have hno := lies_no f s l k hlt
      have hall : Aside (∀ m, (l.take m).all (apart l[k]) = true → m = k → okRun f s l[k] = true → lieTo f s l (k + 1) = true) := fun m h1 h2 h3 => by
        subst h2; rw [lieTo_succ f s l m hlt, hL.out, h3, h1]; rfl
      have hks : (8192 : Int) * k ≤ 8192000000 := by omega
      have hnoap := all_take_no l[k] l
      rcases @okRun_cases f s l[k] with ⟨h0, hbad⟩ | ⟨h0, g1, g2, g3, g4⟩
      · have HN : Hid (lies f s l = false) := hno (by rw [h0]; rfl)
        clear hno hall h0 hnoap
        generalize l[k] = a at *
        rcases hbad with g1 | ⟨g1, g2⟩ | ⟨g1, g2, g3⟩ | ⟨g1, g2, g3, g4⟩
        all_goals
          go_wp2_with fail
          go_ret
          exact runsSays_no HN.out (hK.alloc _)
      · have hno2 : Hid ((l.take k).all (apart l[k]) = false → lies f s l = false) := fun hh => hno (by rw [hh, Bool.and_false])
        have H0 := Lib.hid h0
        have HA := Lib.hid hnoap
        have hstep := fun m hm => all_take_succ l[k] l m hm
        have HST := Lib.hid hstep
        have hokl := lieTo_ok (Nat.le_of_lt hlt) hL.out
        have HOK := Lib.hid hokl
        clear hno h0 hnoap hstep hokl
        generalize l[k] = a at *
        go_wp2_with fail
        obtain ⟨wo, rfl⟩ : ∃ wo : World, wo = wr := ⟨_, rfl⟩
        go_loopw [9] (fun i wr => ∃ m : Nat, m ≤ k ∧ i = .int .i64 m ∧ Aside ((l.take m).all (apart a) = true) ∧ Kept [] w wr ∧ Own wr wo.heap.size #[.int .i64 a.1, .int .i64 a.2] 102) (fun i _ => k - (intOf i).toNat)
        case atStart => exact ⟨0, by omega, rfl, rfl, hK.alloc _, Own.new _ _ _⟩
        case round =>
          obtain ⟨m, hm, rfl, hAP, hK2, ho⟩ := hrel
          obtain ⟨d0, d1⟩ := ho.c2
          have hlt3 := ho.lt
          by_cases hmk : m < k
          · obtain ⟨b', off', hbe, e0, e1, hb2, -, -⟩ := (h.kept0 hK2).at_ m (by omega)
            injection hbe with hbe
            injection hbe with hbe1 hbe2 _
            subst hbe1 hbe2
            have hob := okRun_iff.1 (HOK.out m hmk)
            have hst2 := HST.out m (by omega)
            have hap2 := HA.out m k (by omega) hmk
            have HST2 := Lib.hid hst2
            have HAP2 := Lib.hid hap2
            have hc := @apart_cases a l[m]
            clear hst2 hap2
            generalize l[m] = bb at *
            obtain ⟨q1, q2, q3, q4⟩ := hob
            rcases hc with ⟨r0, r1, r2⟩ | ⟨r0, r1⟩
            · have HN : Hid (lies f s l = false) := hno2.out (HAP2.out r0)
              clear r0 c0 c1
              go_wp2_with fail
              go_ret
              exact runsSays_no HN.out (hK2.alloc _)
            · have R0 := Lib.hid r0
              clear r0 c0 c1
              rcases r1 with r1 | ⟨r1, r2⟩
              all_goals
                go_wp2_with fail
                go_roundw
                case rel => exact ⟨m + 1, by omega, by go_num, by rw [HST2.out, hAP.out, R0.out]; rfl, hK2.alloc _, ho.alloc _⟩
                case measure => simp [intOf]; omega
          · have hmk2 : m = k := by omega
            have HL : Aside (lieTo f s l (k + 1) = true) := hall.out m hAP.out hmk2 H0.out
            clear hAP c0 c1
            have hge : (k : Int) ≤ m := by omega
            clear hmk2 hmk
            go_wp2_with fail
            go_roundw
            case rel => exact ⟨k + 1, by omega, by go_num, HL, hK2⟩
            case measure => simp [intOf]; omega
    · obtain rfl : k = l.length := by omega
      have HY : Hid (lies f s l = true) := hL.out
      clear hL
      go_wp2_with fail
      go_ret
      exact runsSays_yes HY.out hK

set_option maxRecDepth 100000 in
theorem rneed (n : Int) (w : World) (hn : (Lit.int .i64 n).wf = true) :
    Calls Try.prog 61 #[.int .i64 n] w fun e w' => e = .returned (.int .i64 (need n)) ∧ w = w' := by
  have hb := bd64 hn
  unfold need
  by_cases h : n < 1
  · rw [if_pos h]
    go_enter Try.func61, Try.ntmps61
    go_wp2_with fail
    go_ret
    exact ⟨rfl, rfl⟩
  · rw [if_neg h]
    go_enter Try.func61, Try.ntmps61
    go_wp2_with fail
    go_ret
    exact ⟨rfl, rfl⟩

set_option maxRecDepth 100000 in
theorem rsumlen (v : Value) (l : List (Int × Int)) (lo hi : Nat) (f s : Int) (w : World) (h : RunsIn w v l lo hi) (hl : l.length ≤ 1000000) (hL : lies f s l = true) (hf : 0 ≤ f) (hs2 : s ≤ 8192) :
    Calls Try.prog 60 #[v] w fun e w' => e = .returned (.int .i64 (sumLen l)) ∧ w = w' := by
  obtain ⟨p, c, rfl⟩ := h.shape
  have HL := Lib.hid hL
  clear hL
  go_enter Try.func60, Try.ntmps60
  go_wp2_with fail
  go_loop [3, 4] (fun a i => ∃ k : Nat, k ≤ l.length ∧ i = .int .i64 k ∧ a = .int .i64 (sumLen (l.take k))) (fun _ i => l.length - (intOf i).toNat)
  case atStart => exact ⟨0, by omega, rfl, by simp [sumLen]⟩
  case round =>
    obtain ⟨k, hk, rfl, rfl⟩ := hrel
    by_cases hlt : k < l.length
    · obtain ⟨b, off, rfl, c0, c1, hb, hlc, hcm⟩ := h.at_ k hlt
      have hsum : Hid (sumLen (l.take (k + 1)) = sumLen (l.take k) + l[k].2) := sumLen_take l k hlt
      have hlk : lieTo f s l k = true := by
        cases hh : lieTo f s l k
        · have h2 := lieTo_false f s l k l.length (by omega) hh
          rw [show lieTo f s l l.length = lies f s l from rfl, HL.out] at h2; cases h2
        · rfl
      have hbd := sumLen_bd (Nat.le_of_lt hlt) hlk hf hs2
      have hok := okRun_iff.1 (lieTo_ok (Nat.le_refl _) HL.out k hlt)
      have hks : (8192 : Int) * k ≤ 8192000000 := by omega
      clear hlk
      generalize l[k] = a at *
      generalize sumLen (l.take k) = sm at *
      obtain ⟨q1, q2, q3, q4⟩ := hok
      go_wp2_with fail
      go_round
      case rel => exact ⟨k + 1, by omega, by go_num, by rw [hsum.out]⟩
      case measure => simp [intOf]; omega
    · obtain rfl : k = l.length := by omega
      have HS : Hid (sumLen (l.take l.length) = sumLen l) := by show _ = _; rw [List.take_length]
      generalize sumLen (l.take l.length) = sm at *
      go_wp2_with fail
      go_ret
      rw [HS.out]
      exact ⟨rfl, rfl⟩

end Go.Proofs.Ytegbekeopgponaa

/- Blocks of six cells, cell by cell. -/
namespace Go.Proofs.Ytegbekeopgponaa
open Go.RowKit
set_option linter.unusedVariables false
set_option linter.unusedSimpArgs false

theorem Own.c6 {w : World} {b : Nat} {x0 x1 x2 x3 x4 x5 : Value} {t : TypeId} (h : Own w b #[x0, x1, x2, x3, x4, x5] t) : w.cell? ⟨b, 0, none⟩ = some x0 ∧ w.cell? ⟨b, 1, none⟩ = some x1 ∧ w.cell? ⟨b, 2, none⟩ = some x2 ∧ w.cell? ⟨b, 3, none⟩ = some x3 ∧ w.cell? ⟨b, 4, none⟩ = some x4 ∧ w.cell? ⟨b, 5, none⟩ = some x5 :=
  ⟨h.cell 0 (by simp), h.cell 1 (by simp), h.cell 2 (by simp), h.cell 3 (by simp), h.cell 4 (by simp), h.cell 5 (by simp)⟩
theorem Own.z6 {w : World} {b : Nat} {x0 x1 x2 x3 x4 x5 : Value} {t : TypeId} (h : Own w b #[x0, x1, x2, x3, x4, x5] t) : w.frozen? ⟨b, 0, none⟩ = false ∧ w.frozen? ⟨b, 1, none⟩ = false ∧ w.frozen? ⟨b, 2, none⟩ = false ∧ w.frozen? ⟨b, 3, none⟩ = false ∧ w.frozen? ⟨b, 4, none⟩ = false ∧ w.frozen? ⟨b, 5, none⟩ = false :=
  ⟨h.free 0, h.free 1, h.free 2, h.free 3, h.free 4, h.free 5⟩
theorem own_eight (w : World) (A0 A1 A2 A3 A4 A5 A6 A7 : Array Value) (t0 t1 t2 t3 t4 t5 t6 t7 : TypeId) : Own ((((((((w.alloc (.cells A0 t0)).alloc (.cells A1 t1)).alloc (.cells A2 t2)).alloc (.cells A3 t3)).alloc (.cells A4 t4)).alloc (.cells A5 t5)).alloc (.cells A6 t6)).alloc (.cells A7 t7)) w.heap.size A0 t0 ∧ Own ((((((((w.alloc (.cells A0 t0)).alloc (.cells A1 t1)).alloc (.cells A2 t2)).alloc (.cells A3 t3)).alloc (.cells A4 t4)).alloc (.cells A5 t5)).alloc (.cells A6 t6)).alloc (.cells A7 t7)) (w.heap.size + 1) A1 t1 ∧ Own ((((((((w.alloc (.cells A0 t0)).alloc (.cells A1 t1)).alloc (.cells A2 t2)).alloc (.cells A3 t3)).alloc (.cells A4 t4)).alloc (.cells A5 t5)).alloc (.cells A6 t6)).alloc (.cells A7 t7)) (w.heap.size + 1 + 1) A2 t2 ∧ Own ((((((((w.alloc (.cells A0 t0)).alloc (.cells A1 t1)).alloc (.cells A2 t2)).alloc (.cells A3 t3)).alloc (.cells A4 t4)).alloc (.cells A5 t5)).alloc (.cells A6 t6)).alloc (.cells A7 t7)) (w.heap.size + 1 + 1 + 1) A3 t3 ∧ Own ((((((((w.alloc (.cells A0 t0)).alloc (.cells A1 t1)).alloc (.cells A2 t2)).alloc (.cells A3 t3)).alloc (.cells A4 t4)).alloc (.cells A5 t5)).alloc (.cells A6 t6)).alloc (.cells A7 t7)) (w.heap.size + 1 + 1 + 1 + 1) A4 t4 ∧ Own ((((((((w.alloc (.cells A0 t0)).alloc (.cells A1 t1)).alloc (.cells A2 t2)).alloc (.cells A3 t3)).alloc (.cells A4 t4)).alloc (.cells A5 t5)).alloc (.cells A6 t6)).alloc (.cells A7 t7)) (w.heap.size + 1 + 1 + 1 + 1 + 1) A5 t5 ∧ Own ((((((((w.alloc (.cells A0 t0)).alloc (.cells A1 t1)).alloc (.cells A2 t2)).alloc (.cells A3 t3)).alloc (.cells A4 t4)).alloc (.cells A5 t5)).alloc (.cells A6 t6)).alloc (.cells A7 t7)) (w.heap.size + 1 + 1 + 1 + 1 + 1 + 1) A6 t6 ∧ Own ((((((((w.alloc (.cells A0 t0)).alloc (.cells A1 t1)).alloc (.cells A2 t2)).alloc (.cells A3 t3)).alloc (.cells A4 t4)).alloc (.cells A5 t5)).alloc (.cells A6 t6)).alloc (.cells A7 t7)) (w.heap.size + 1 + 1 + 1 + 1 + 1 + 1 + 1) A7 t7 := by
  have h0 : Own (w.alloc (.cells A0 t0)) w.heap.size A0 t0 := by have := Own.new w A0 t0; simpa only [World.size_alloc] using this
  have h1 : Own ((w.alloc (.cells A0 t0)).alloc (.cells A1 t1)) (w.heap.size + 1) A1 t1 := by have := Own.new (w.alloc (.cells A0 t0)) A1 t1; simpa only [World.size_alloc] using this
  have h2 : Own (((w.alloc (.cells A0 t0)).alloc (.cells A1 t1)).alloc (.cells A2 t2)) (w.heap.size + 1 + 1) A2 t2 := by have := Own.new ((w.alloc (.cells A0 t0)).alloc (.cells A1 t1)) A2 t2; simpa only [World.size_alloc] using this
  have h3 : Own ((((w.alloc (.cells A0 t0)).alloc (.cells A1 t1)).alloc (.cells A2 t2)).alloc (.cells A3 t3)) (w.heap.size + 1 + 1 + 1) A3 t3 := by have := Own.new (((w.alloc (.cells A0 t0)).alloc (.cells A1 t1)).alloc (.cells A2 t2)) A3 t3; simpa only [World.size_alloc] using this
  have h4 : Own (((((w.alloc (.cells A0 t0)).alloc (.cells A1 t1)).alloc (.cells A2 t2)).alloc (.cells A3 t3)).alloc (.cells A4 t4)) (w.heap.size + 1 + 1 + 1 + 1) A4 t4 := by have := Own.new ((((w.alloc (.cells A0 t0)).alloc (.cells A1 t1)).alloc (.cells A2 t2)).alloc (.cells A3 t3)) A4 t4; simpa only [World.size_alloc] using this
  have h5 : Own ((((((w.alloc (.cells A0 t0)).alloc (.cells A1 t1)).alloc (.cells A2 t2)).alloc (.cells A3 t3)).alloc (.cells A4 t4)).alloc (.cells A5 t5)) (w.heap.size + 1 + 1 + 1 + 1 + 1) A5 t5 := by have := Own.new (((((w.alloc (.cells A0 t0)).alloc (.cells A1 t1)).alloc (.cells A2 t2)).alloc (.cells A3 t3)).alloc (.cells A4 t4)) A5 t5; simpa only [World.size_alloc] using this
  have h6 : Own (((((((w.alloc (.cells A0 t0)).alloc (.cells A1 t1)).alloc (.cells A2 t2)).alloc (.cells A3 t3)).alloc (.cells A4 t4)).alloc (.cells A5 t5)).alloc (.cells A6 t6)) (w.heap.size + 1 + 1 + 1 + 1 + 1 + 1) A6 t6 := by have := Own.new ((((((w.alloc (.cells A0 t0)).alloc (.cells A1 t1)).alloc (.cells A2 t2)).alloc (.cells A3 t3)).alloc (.cells A4 t4)).alloc (.cells A5 t5)) A6 t6; simpa only [World.size_alloc] using this
  have h7 : Own ((((((((w.alloc (.cells A0 t0)).alloc (.cells A1 t1)).alloc (.cells A2 t2)).alloc (.cells A3 t3)).alloc (.cells A4 t4)).alloc (.cells A5 t5)).alloc (.cells A6 t6)).alloc (.cells A7 t7)) (w.heap.size + 1 + 1 + 1 + 1 + 1 + 1 + 1) A7 t7 := by have := Own.new (((((((w.alloc (.cells A0 t0)).alloc (.cells A1 t1)).alloc (.cells A2 t2)).alloc (.cells A3 t3)).alloc (.cells A4 t4)).alloc (.cells A5 t5)).alloc (.cells A6 t6)) A7 t7; simpa only [World.size_alloc] using this
  exact ⟨(((((((h0.alloc _).alloc _).alloc _).alloc _).alloc _).alloc _).alloc _), ((((((h1.alloc _).alloc _).alloc _).alloc _).alloc _).alloc _), (((((h2.alloc _).alloc _).alloc _).alloc _).alloc _), ((((h3.alloc _).alloc _).alloc _).alloc _), (((h4.alloc _).alloc _).alloc _), ((h5.alloc _).alloc _), (h6.alloc _), h7⟩
/-- all six cells of a block, written in turn. -/
theorem Own.set6 {w : World} {b : Nat} {x0 x1 x2 x3 x4 x5 : Value} {t : TypeId} (h : Own w b #[x0, x1, x2, x3, x4, x5] t) (y0 y1 y2 y3 y4 y5 : Value) :
    Own ((((((w.setCell ⟨b, 0, none⟩ y0).setCell ⟨b, 1, none⟩ y1).setCell ⟨b, 2, none⟩ y2).setCell ⟨b, 3, none⟩ y3).setCell ⟨b, 4, none⟩ y4).setCell ⟨b, 5, none⟩ y5) b #[y0, y1, y2, y3, y4, y5] t := by
  have := ((((((h.set 0 y0).set 1 y1).set 2 y2).set 3 y3).set 4 y4).set 5 y5)
  simpa using this
theorem Kept.set6 {S : List Nat} {a w : World} {b : Nat} (h : Kept S a w) (hp : b ∈ S ∨ a.heap.size ≤ b) (y0 y1 y2 y3 y4 y5 : Value) : Kept S a ((((((w.setCell ⟨b, 0, none⟩ y0).setCell ⟨b, 1, none⟩ y1).setCell ⟨b, 2, none⟩ y2).setCell ⟨b, 3, none⟩ y3).setCell ⟨b, 4, none⟩ y4).setCell ⟨b, 5, none⟩ y5) :=
  (((((h.setCell (p := ⟨b, 0, none⟩) hp _).setCell (p := ⟨b, 1, none⟩) hp _).setCell (p := ⟨b, 2, none⟩) hp _).setCell (p := ⟨b, 3, none⟩) hp _).setCell (p := ⟨b, 4, none⟩) hp _).setCell (p := ⟨b, 5, none⟩) hp _
theorem Own.other6 {w : World} {b g : Nat} {cs : Array Value} {t : TypeId} (h : Own w g cs t) (hp : g ≠ b) (y0 y1 y2 y3 y4 y5 : Value) : Own ((((((w.setCell ⟨b, 0, none⟩ y0).setCell ⟨b, 1, none⟩ y1).setCell ⟨b, 2, none⟩ y2).setCell ⟨b, 3, none⟩ y3).setCell ⟨b, 4, none⟩ y4).setCell ⟨b, 5, none⟩ y5) g cs t :=
  (((((h.other (p := ⟨b, 0, none⟩) hp _).other (p := ⟨b, 1, none⟩) hp _).other (p := ⟨b, 2, none⟩) hp _).other (p := ⟨b, 3, none⟩) hp _).other (p := ⟨b, 4, none⟩) hp _).other (p := ⟨b, 5, none⟩) hp _
end Go.Proofs.Ytegbekeopgponaa

/- Walks of layer 11 (super): the same runs, the same superblock. -/
namespace Go.Proofs.Ytegbekeopgponaa
open Go.RowKit
set_option linter.unusedVariables false
set_option linter.unusedSimpArgs false

theorem runs_ne_len {l m : List (Int × Int)} (h : l.length ≠ m.length) : (l == m) = false := by
  rw [beq_eq_false_iff_ne]; intro e; rw [e] at h; exact h rfl
theorem runs_ne_at {l m : List (Int × Int)} (k : Nat) (h1 : k < l.length) (h2 : k < m.length) (h : l[k] ≠ m[k]) : (l == m) = false := by
  rw [beq_eq_false_iff_ne]; intro e; subst e; exact h rfl
theorem runs_eq {l m : List (Int × Int)} (hl : l.length = m.length) (h : l.take l.length = m.take l.length) : (l == m) = true := by
  rw [beq_iff_eq]; rw [List.take_length] at h; rw [h, hl, List.take_length]

set_option maxRecDepth 100000 in
set_option maxHeartbeats 1000000 in
theorem rsameruns (va vb : Value) (l m : List (Int × Int)) (lo hi lo' hi' : Nat) (w : World) (h : RunsIn w va l lo hi) (h' : RunsIn w vb m lo' hi') (hl : l.length ≤ 1000000) (hm : m.length ≤ 1000000) :
    Calls Try.prog 65 #[va, vb] w fun e w' => e = .returned (.bool (l == m)) ∧ Kept [] w w' := by
  obtain ⟨p, c, rfl⟩ := h.shape
  obtain ⟨p', c', rfl⟩ := h'.shape
  by_cases hne : l.length = m.length
  · have hq : ((l.length : Int) == (m.length : Int)) = true := by simp; omega
    have HQ := Lib.hid hne
    clear hne
    go_enter Try.func65, Try.ntmps65
    go_wp2_with fail
    go_loopw [5] (fun i wr => ∃ k : Nat, k ≤ l.length ∧ i = .int .i64 k ∧ Aside (l.take k = m.take k) ∧ Kept [] w wr) (fun i _ => l.length - (intOf i).toNat)
    case atStart => exact ⟨0, by omega, rfl, by simp [Aside], Kept.refl _ _⟩
    case round =>
      obtain ⟨k, hk, rfl, hA, hK⟩ := hrel
      by_cases hlt : k < l.length
      · have hlm : k < m.length := by have := HQ.out; omega
        obtain ⟨b, off, rfl, c0, c1, hb, hlc, hcm⟩ := (h.kept0 hK).at_ k hlt
        obtain ⟨b', off', rfl, c0', c1', hb', hlc', hcm'⟩ := (h'.kept0 hK).at_ k hlm
        have i1 : (k : Int) < l.length := by omega
        have i2 : (k : Int) < m.length := by omega
        have hno : l[k] ≠ m[k] → (l == m) = false := runs_ne_at k hlt hlm
        have hst : l[k] = m[k] → Aside (l.take (k + 1) = m.take (k + 1)) := fun e => by
          show _ = _
          rw [List.take_succ_eq_append_getElem hlt, List.take_succ_eq_append_getElem hlm, hA.out, e]
        generalize l[k] = a at *
        generalize m[k] = a' at *
        by_cases e1 : a.1 = a'.1
        · by_cases e2 : a.2 = a'.2
          · have e3 : a = a' := Prod.ext e1 e2
            have HT := hst e3
            subst e3
            clear hno hst e1 e2 hA
            go_wp2_with fail
            go_region
            all_goals go_wp2_with fail
            all_goals go_roundw
            case rel => exact ⟨k + 1, by omega, by go_num, HT, hK.drew⟩
            case measure => simp [intOf]; omega
          · have HN : Hid ((l == m) = false) := hno (fun e => e2 (by rw [e]))
            clear hno hst hA
            rw [← e1] at c0'
            clear e1
            go_wp2_with fail
            go_region
            all_goals go_wp2_with fail
            all_goals go_ret
            all_goals exact ⟨by rw [HN.out]; rfl, hK.drew⟩
        · have HN : Hid ((l == m) = false) := hno (fun e => e1 (by rw [e]))
          clear hno hst hA
          go_wp2_with fail
          go_region
          all_goals go_wp2_with fail
          all_goals go_ret
          all_goals exact ⟨by rw [HN.out]; rfl, hK.drew⟩
      · obtain rfl : k = l.length := by omega
        have HY : Hid ((l == m) = true) := runs_eq HQ.out hA.out
        clear hA
        go_wp2_with fail
        go_ret
        exact ⟨by rw [HY.out]; rfl, hK⟩
  · have hq : ((l.length : Int) == (m.length : Int)) = false := by simp; omega
    have HN : Hid ((l == m) = false) := runs_ne_len hne
    clear hne
    go_enter Try.func65, Try.ntmps65
    go_wp2_with fail
    go_ret
    exact ⟨by rw [HN.out]; rfl, Kept.refl _ _⟩
set_option maxRecDepth 100000 in
set_option maxHeartbeats 1000000 in
theorem pequal (va vb : Value) (l m : List (Int × Int)) (lo hi lo' hi' : Nat) (w : World) (h : RunsIn w va l lo hi) (h' : RunsIn w vb m lo' hi') (hl : l.length ≤ 1000000) (hm : m.length ≤ 1000000) :
    Calls Try.prog 64 #[va, vb] w fun e w' => e = .returned (.bool (l == m)) ∧ Kept [] w w' := by
  obtain ⟨p, c, rfl⟩ := h.shape
  obtain ⟨p', c', rfl⟩ := h'.shape
  by_cases hne : l.length = m.length
  · have hq : ((l.length : Int) == (m.length : Int)) = true := by simp; omega
    have HQ := Lib.hid hne
    clear hne
    go_enter Try.func64, Try.ntmps64
    go_wp2_with fail
    go_loopw [13] (fun i wr => ∃ k : Nat, k ≤ l.length ∧ i = .int .i64 k ∧ Aside (l.take k = m.take k) ∧ Kept [] w wr) (fun i _ => l.length - (intOf i).toNat)
    case atStart => exact ⟨0, by omega, rfl, by simp [Aside], Kept.refl _ _⟩
    case round =>
      obtain ⟨k, hk, rfl, hA, hK⟩ := hrel
      by_cases hlt : k < l.length
      · have hlm : k < m.length := by have := HQ.out; omega
        obtain ⟨b, off, rfl, c0, c1, hb, hlc, hcm⟩ := (h.kept0 hK).at_ k hlt
        obtain ⟨b', off', rfl, c0', c1', hb', hlc', hcm'⟩ := (h'.kept0 hK).at_ k hlm
        have i1 : (k : Int) < l.length := by omega
        have i2 : (k : Int) < m.length := by omega
        have hno : l[k] ≠ m[k] → (l == m) = false := runs_ne_at k hlt hlm
        have hst : l[k] = m[k] → Aside (l.take (k + 1) = m.take (k + 1)) := fun e => by
          show _ = _
          rw [List.take_succ_eq_append_getElem hlt, List.take_succ_eq_append_getElem hlm, hA.out, e]
        generalize l[k] = a at *
        generalize m[k] = a' at *
        by_cases e1 : a.1 = a'.1
        · by_cases e2 : a.2 = a'.2
          · have e3 : a = a' := Prod.ext e1 e2
            have HT := hst e3
            subst e3
            clear hno hst e1 e2 hA
            go_wp2_with fail
            go_region
            all_goals go_wp2_with fail
            all_goals go_roundw
            case rel => exact ⟨k + 1, by omega, by go_num, HT, hK.drew⟩
            case measure => simp [intOf]; omega
          · have HN : Hid ((l == m) = false) := hno (fun e => e2 (by rw [e]))
            clear hno hst hA
            rw [← e1] at c0'
            clear e1
            go_wp2_with fail
            go_region
            all_goals go_wp2_with fail
            all_goals go_ret
            all_goals exact ⟨by rw [HN.out]; rfl, hK.drew⟩
        · have HN : Hid ((l == m) = false) := hno (fun e => e1 (by rw [e]))
          clear hno hst hA
          go_wp2_with fail
          go_region
          all_goals go_wp2_with fail
          all_goals go_ret
          all_goals exact ⟨by rw [HN.out]; rfl, hK.drew⟩
      · obtain rfl : k = l.length := by omega
        have HY : Hid ((l == m) = true) := runs_eq HQ.out hA.out
        clear hA
        go_wp2_with fail
        go_ret
        exact ⟨by rw [HY.out]; rfl, hK⟩
  · have hq : ((l.length : Int) == (m.length : Int)) = false := by simp; omega
    have HN : Hid ((l == m) = false) := runs_ne_len hne
    clear hne
    go_enter Try.func64, Try.ntmps64
    go_wp2_with fail
    go_ret
    exact ⟨by rw [HN.out]; rfl, Kept.refl _ _⟩

/-- the same superblock? -/
def SB.same (a b : SB) : Bool := a.seq == b.seq && a.sectors == b.sectors && a.journal == b.journal && a.used == b.used && a.size == b.size && a.runs == b.runs
theorem seq_beq (a b : Nat) : ((a : Int) == (b : Int)) = (a == b) := by
  rw [Bool.eq_iff_iff, beq_iff_eq, beq_iff_eq]; omega
theorem SB.num5 (a b : SB) : (((a.seq : Int) == (b.seq : Int)) = false ∧ a.same b = false) ∨ (((a.seq : Int) == (b.seq : Int)) = true ∧ (a.sectors == b.sectors) = false ∧ a.same b = false) ∨
    (((a.seq : Int) == (b.seq : Int)) = true ∧ (a.sectors == b.sectors) = true ∧ (a.journal == b.journal) = false ∧ a.same b = false) ∨
    (((a.seq : Int) == (b.seq : Int)) = true ∧ (a.sectors == b.sectors) = true ∧ (a.journal == b.journal) = true ∧ (a.used == b.used) = false ∧ a.same b = false) ∨
    (((a.seq : Int) == (b.seq : Int)) = true ∧ (a.sectors == b.sectors) = true ∧ (a.journal == b.journal) = true ∧ (a.used == b.used) = true ∧ (a.size == b.size) = false ∧ a.same b = false) ∨
    (((a.seq : Int) == (b.seq : Int)) = true ∧ (a.sectors == b.sectors) = true ∧ (a.journal == b.journal) = true ∧ (a.used == b.used) = true ∧ (a.size == b.size) = true ∧ a.same b = (a.runs == b.runs)) := by
  unfold SB.same
  rw [seq_beq]
  cases a.seq == b.seq <;> cases a.sectors == b.sectors <;> cases a.journal == b.journal <;> cases a.used == b.used <;> cases a.size == b.size <;> simp

end Go.Proofs.Ytegbekeopgponaa
