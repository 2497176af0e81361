/- Walks of the reference of layer 11 (super): which runs, which superblocks may be. -/
import Derived.Test.YtakdnchmehmdhaaGreatG01
import Derived.Deep.RegionWith
import Derived.BigRegion
import Derived.Laws.StructEq
import Derived.Deep.QuietTactic
import Derived.BigQuiet
import Derived.ProofKit
import Derived.OpenShut
import Derived.SliceStrings
import Derived.Deep.Slices
import Derived.ChangeSame
namespace Go.Proofs.YtakdnchmehmdhaaGreat
open Go.RowKit
set_option linter.unusedVariables false
set_option linter.unusedSimpArgs false

def RunsSays (f s : Int) (l : List (Int × Int)) (w : World) (e : Ending) (w' : World) : Prop := e = .returned (.bool (lies f s l && decide (l.length ≤ 16))) ∧ Kept [] w w'
theorem runsSays_no {f s : Int} {l : List (Int × Int)} {w w' : World} (h : lies f s l = false) (hk : Kept [] w w') : RunsSays f s l w (.returned (.bool false)) w' := by
  refine ⟨?_, hk⟩; rw [h]; rfl
theorem runsSays_yes {f s : Int} {l : List (Int × Int)} {w w' : World} (h : lies f s l = true) (hk : Kept [] w w') : RunsSays f s l w (.returned (.bool (decide ((l.length : Int) ≤ 16)))) w' := by
  refine ⟨?_, hk⟩
  rw [h, Bool.true_and]
  have : decide ((l.length : Int) ≤ 16) = decide (l.length ≤ 16) := by rw [decide_eq_decide]; omega
  rw [this]

set_option maxRecDepth 100000 in
set_option maxHeartbeats 1600000 in
theorem rruns (v : Value) (l : List (Int × Int)) (lo hi : Nat) (f s : Int) (w : World) (h : RunsIn w v l lo hi) (hl : l.length ≤ 1000000) (hf : 0 ≤ f) (hf2 : f ≤ 100000) (hs : 0 ≤ s) (hs2 : s ≤ 8192) :
    Calls Tryz.prog 78 #[v, .int .i64 f, .int .i64 s] w (RunsSays f s l w) := by
  obtain ⟨p, c, rfl⟩ := h.shape
  go_enter Tryz.func78, Tryz.ntmps78
  go_wp2_with fail
  go_loopw [7] (fun i wr => ∃ k : Nat, k ≤ l.length ∧ i = .int .i64 k ∧ Aside (lieTo f s l k = true) ∧ Kept [] w wr) (fun i _ => l.length - (intOf i).toNat)
  case atStart => exact ⟨0, by omega, rfl, rfl, Kept.refl _ _⟩
  case round =>
    obtain ⟨k, hk, rfl, hL, hK⟩ := hrel
    by_cases hlt : k < l.length
    · obtain ⟨b, off, rfl, c0, c1, hb, hlc, hcm⟩ := (h.kept0 hK).at_ k hlt
      unfold maxLen at hcm
      have hno := lies_no f s l k hlt
      have hall : Aside (∀ m, (l.take m).all (apart l[k]) = true → m = k → okRun f s l[k] = true → lieTo f s l (k + 1) = true) := fun m h1 h2 h3 => by
        subst h2; rw [lieTo_succ f s l m hlt, hL.out, h3, h1]; rfl
      have hks : (8192 : Int) * k ≤ 8192000000 := by omega
      have hnoap := all_take_no l[k] l
      rcases @okRun_cases f s l[k] with ⟨h0, hbad⟩ | ⟨h0, g1, g2, g3, g4⟩
      · have HN : Hid (lies f s l = false) := hno (by rw [h0]; rfl)
        clear hno hall h0 hnoap
        generalize l[k] = a at *
        rcases hbad with g1 | ⟨g1, g2⟩ | ⟨g1, g2, g3⟩ | ⟨g1, g2, g3, g4⟩
        all_goals
          go_wp2_with fail
          go_ret
          exact runsSays_no HN.out (hK.alloc _)
      · have hno2 : Hid ((l.take k).all (apart l[k]) = false → lies f s l = false) := fun hh => hno (by rw [hh, Bool.and_false])
        have H0 := Lib.hid h0
        have HA := Lib.hid hnoap
        have hstep := fun m hm => all_take_succ l[k] l m hm
        have HST := Lib.hid hstep
        have hokl := lieTo_ok (Nat.le_of_lt hlt) hL.out
        have HOK := Lib.hid hokl
        clear hno h0 hnoap hstep hokl
        generalize l[k] = a at *
        go_wp2_with fail
        obtain ⟨wo, rfl⟩ : ∃ wo : World, wo = wr := ⟨_, rfl⟩
        go_loopw [9] (fun i wr => ∃ m : Nat, m ≤ k ∧ i = .int .i64 m ∧ Aside ((l.take m).all (apart a) = true) ∧ Kept [] w wr ∧ Own wr wo.heap.size #[.int .i64 a.1, .int .i64 a.2] 48) (fun i _ => k - (intOf i).toNat)
        case atStart => exact ⟨0, by omega, rfl, rfl, hK.alloc _, Own.new _ _ _⟩
        case round =>
          obtain ⟨m, hm, rfl, hAP, hK2, ho⟩ := hrel
          obtain ⟨d0, d1⟩ := ho.c2
          have hlt3 := ho.lt
          by_cases hmk : m < k
          · obtain ⟨b', off', hbe, e0, e1, hb2, -, -⟩ := (h.kept0 hK2).at_ m (by omega)
            injection hbe with hbe
            injection hbe with hbe1 hbe2 _
            subst hbe1 hbe2
            have hob := okRun_iff.1 (HOK.out m hmk)
            have hst2 := HST.out m (by omega)
            have hap2 := HA.out m k (by omega) hmk
            have HST2 := Lib.hid hst2
            have HAP2 := Lib.hid hap2
            have hc := @apart_cases a l[m]
            clear hst2 hap2
            generalize l[m] = bb at *
            obtain ⟨q1, q2, q3, q4⟩ := hob
            rcases hc with ⟨r0, r1, r2⟩ | ⟨r0, r1⟩
            · have HN : Hid (lies f s l = false) := hno2.out (HAP2.out r0)
              clear r0 c0 c1
              go_wp2_with fail
              go_ret
              exact runsSays_no HN.out (hK2.alloc _)
            · have R0 := Lib.hid r0
              clear r0 c0 c1
              rcases r1 with r1 | ⟨r1, r2⟩
              all_goals
                go_wp2_with fail
                go_roundw
                case rel => exact ⟨m + 1, by omega, by go_num, by rw [HST2.out, hAP.out, R0.out]; rfl, hK2.alloc _, ho.alloc _⟩
                case measure => simp [intOf]; omega
          · have hmk2 : m = k := by omega
            have HL : Aside (lieTo f s l (k + 1) = true) := hall.out m hAP.out hmk2 H0.out
            clear hAP c0 c1
            have hge : (k : Int) ≤ m := by omega
            clear hmk2 hmk
            go_wp2_with fail
            go_roundw
            case rel => exact ⟨k + 1, by omega, by go_num, HL, hK2⟩
            case measure => simp [intOf]; omega
    · obtain rfl : k = l.length := by omega
      have HY : Hid (lies f s l = true) := hL.out
      clear hL
      go_wp2_with fail
      go_ret
      exact runsSays_yes HY.out hK

set_option maxRecDepth 100000 in
theorem rneed (n : Int) (w : World) (hn : (Lit.int .i64 n).wf = true) :
    Calls Tryz.prog 80 #[.int .i64 n] w fun e w' => e = .returned (.int .i64 (need n)) ∧ w = w' := by
  have hb := bd64 hn
  unfold need
  by_cases h : n < 1
  · rw [if_pos h]
    go_enter Tryz.func80, Tryz.ntmps80
    go_wp2_with fail
    go_ret
    exact ⟨rfl, rfl⟩
  · rw [if_neg h]
    go_enter Tryz.func80, Tryz.ntmps80
    go_wp2_with fail
    go_ret
    exact ⟨rfl, rfl⟩

set_option maxRecDepth 100000 in
theorem rsumlen (v : Value) (l : List (Int × Int)) (lo hi : Nat) (f s : Int) (w : World) (h : RunsIn w v l lo hi) (hl : l.length ≤ 1000000) (hL : lies f s l = true) (hf : 0 ≤ f) (hs2 : s ≤ 8192) :
    Calls Tryz.prog 79 #[v] w fun e w' => e = .returned (.int .i64 (sumLen l)) ∧ w = w' := by
  obtain ⟨p, c, rfl⟩ := h.shape
  have HL := Lib.hid hL
  clear hL
  go_enter Tryz.func79, Tryz.ntmps79
  go_wp2_with fail
  go_loop [3, 4] (fun a i => ∃ k : Nat, k ≤ l.length ∧ i = .int .i64 k ∧ a = .int .i64 (sumLen (l.take k))) (fun _ i => l.length - (intOf i).toNat)
  case atStart => exact ⟨0, by omega, rfl, by simp [sumLen]⟩
  case round =>
    obtain ⟨k, hk, rfl, rfl⟩ := hrel
    by_cases hlt : k < l.length
    · obtain ⟨b, off, rfl, c0, c1, hb, hlc, hcm⟩ := h.at_ k hlt
      have hsum : Hid (sumLen (l.take (k + 1)) = sumLen (l.take k) + l[k].2) := sumLen_take l k hlt
      have hlk : lieTo f s l k = true := by
        cases hh : lieTo f s l k
        · have h2 := lieTo_false f s l k l.length (by omega) hh
          rw [show lieTo f s l l.length = lies f s l from rfl, HL.out] at h2; cases h2
        · rfl
      have hbd := sumLen_bd (Nat.le_of_lt hlt) hlk hf hs2
      have hok := okRun_iff.1 (lieTo_ok (Nat.le_refl _) HL.out k hlt)
      have hks : (8192 : Int) * k ≤ 8192000000 := by omega
      clear hlk
      generalize l[k] = a at *
      generalize sumLen (l.take k) = sm at *
      obtain ⟨q1, q2, q3, q4⟩ := hok
      go_wp2_with fail
      go_round
      case rel => exact ⟨k + 1, by omega, by go_num, by rw [hsum.out]⟩
      case measure => simp [intOf]; omega
    · obtain rfl : k = l.length := by omega
      have HS : Hid (sumLen (l.take l.length) = sumLen l) := by show _ = _; rw [List.take_length]
      generalize sumLen (l.take l.length) = sm at *
      go_wp2_with fail
      go_ret
      rw [HS.out]
      exact ⟨rfl, rfl⟩
theorem runs_ne_len {l m : List (Int × Int)} (h : l.length ≠ m.length) : (l == m) = false := by
  rw [beq_eq_false_iff_ne]; intro e; rw [e] at h; exact h rfl
theorem runs_ne_at {l m : List (Int × Int)} (k : Nat) (h1 : k < l.length) (h2 : k < m.length) (h : l[k] ≠ m[k]) : (l == m) = false := by
  rw [beq_eq_false_iff_ne]; intro e; subst e; exact h rfl
theorem runs_eq {l m : List (Int × Int)} (hl : l.length = m.length) (h : l.take l.length = m.take l.length) : (l == m) = true := by
  rw [beq_iff_eq]; rw [List.take_length] at h; rw [h, hl, List.take_length]
set_option maxRecDepth 100000 in
set_option maxHeartbeats 1000000 in
theorem rsameruns (va vb : Value) (l m : List (Int × Int)) (lo hi lo' hi' : Nat) (w : World) (h : RunsIn w va l lo hi) (h' : RunsIn w vb m lo' hi') (hl : l.length ≤ 1000000) (hm : m.length ≤ 1000000) :
    Calls Tryz.prog 32 #[va, vb] w fun e w' => e = .returned (.bool (l == m)) ∧ Kept [] w w' := by
  obtain ⟨p, c, rfl⟩ := h.shape
  obtain ⟨p', c', rfl⟩ := h'.shape
  by_cases hne : l.length = m.length
  · have hq : ((l.length : Int) == (m.length : Int)) = true := by simp; omega
    have HQ := Lib.hid hne
    clear hne
    go_enter Tryz.func32, Tryz.ntmps32
    go_wp2_with fail
    go_loopw [5] (fun i wr => ∃ k : Nat, k ≤ l.length ∧ i = .int .i64 k ∧ Aside (l.take k = m.take k) ∧ Kept [] w wr) (fun i _ => l.length - (intOf i).toNat)
    case atStart => exact ⟨0, by omega, rfl, by simp [Aside], Kept.refl _ _⟩
    case round =>
      obtain ⟨k, hk, rfl, hA, hK⟩ := hrel
      by_cases hlt : k < l.length
      · have hlm : k < m.length := by have := HQ.out; omega
        obtain ⟨b, off, rfl, c0, c1, hb, hlc, hcm⟩ := (h.kept0 hK).at_ k hlt
        obtain ⟨b', off', rfl, c0', c1', hb', hlc', hcm'⟩ := (h'.kept0 hK).at_ k hlm
        have i1 : (k : Int) < l.length := by omega
        have i2 : (k : Int) < m.length := by omega
        have hno : l[k] ≠ m[k] → (l == m) = false := runs_ne_at k hlt hlm
        have hst : l[k] = m[k] → Aside (l.take (k + 1) = m.take (k + 1)) := fun e => by
          show _ = _
          rw [List.take_succ_eq_append_getElem hlt, List.take_succ_eq_append_getElem hlm, hA.out, e]
        generalize l[k] = a at *
        generalize m[k] = a' at *
        by_cases e1 : a.1 = a'.1
        · by_cases e2 : a.2 = a'.2
          · have e3 : a = a' := Prod.ext e1 e2
            have HT := hst e3
            subst e3
            clear hno hst e1 e2 hA
            go_wp2_with fail
            go_region
            all_goals go_wp2_with fail
            all_goals go_roundw
            case rel => exact ⟨k + 1, by omega, by go_num, HT, hK.drew⟩
            case measure => simp [intOf]; omega
          · have HN : Hid ((l == m) = false) := hno (fun e => e2 (by rw [e]))
            clear hno hst hA
            rw [← e1] at c0'
            clear e1
            go_wp2_with fail
            go_region
            all_goals go_wp2_with fail
            all_goals go_ret
            all_goals exact ⟨by rw [HN.out]; rfl, hK.drew⟩
        · have HN : Hid ((l == m) = false) := hno (fun e => e1 (by rw [e]))
          clear hno hst hA
          go_wp2_with fail
          go_region
          all_goals go_wp2_with fail
          all_goals go_ret
          all_goals exact ⟨by rw [HN.out]; rfl, hK.drew⟩
      · obtain rfl : k = l.length := by omega
        have HY : Hid ((l == m) = true) := runs_eq HQ.out hA.out
        clear hA
        go_wp2_with fail
        go_ret
        exact ⟨by rw [HY.out]; rfl, hK⟩
  · have hq : ((l.length : Int) == (m.length : Int)) = false := by simp; omega
    have HN : Hid ((l == m) = false) := runs_ne_len hne
    clear hne
    go_enter Tryz.func32, Tryz.ntmps32
    go_wp2_with fail
    go_ret
    exact ⟨by rw [HN.out]; rfl, Kept.refl _ _⟩
set_option maxRecDepth 100000 in
set_option maxHeartbeats 1000000 in
theorem pequal (va vb : Value) (l m : List (Int × Int)) (lo hi lo' hi' : Nat) (w : World) (h : RunsIn w va l lo hi) (h' : RunsIn w vb m lo' hi') (hl : l.length ≤ 1000000) (hm : m.length ≤ 1000000) :
    Calls Tryz.prog 85 #[va, vb] w fun e w' => e = .returned (.bool (l == m)) ∧ Kept [] w w' := by
  obtain ⟨p, c, rfl⟩ := h.shape
  obtain ⟨p', c', rfl⟩ := h'.shape
  by_cases hne : l.length = m.length
  · have hq : ((l.length : Int) == (m.length : Int)) = true := by simp; omega
    have HQ := Lib.hid hne
    clear hne
    go_enter Tryz.func85, Tryz.ntmps85
    go_wp2_with fail
    go_loopw [13] (fun i wr => ∃ k : Nat, k ≤ l.length ∧ i = .int .i64 k ∧ Aside (l.take k = m.take k) ∧ Kept [] w wr) (fun i _ => l.length - (intOf i).toNat)
    case atStart => exact ⟨0, by omega, rfl, by simp [Aside], Kept.refl _ _⟩
    case round =>
      obtain ⟨k, hk, rfl, hA, hK⟩ := hrel
      by_cases hlt : k < l.length
      · have hlm : k < m.length := by have := HQ.out; omega
        obtain ⟨b, off, rfl, c0, c1, hb, hlc, hcm⟩ := (h.kept0 hK).at_ k hlt
        obtain ⟨b', off', rfl, c0', c1', hb', hlc', hcm'⟩ := (h'.kept0 hK).at_ k hlm
        have i1 : (k : Int) < l.length := by omega
        have i2 : (k : Int) < m.length := by omega
        have hno : l[k] ≠ m[k] → (l == m) = false := runs_ne_at k hlt hlm
        have hst : l[k] = m[k] → Aside (l.take (k + 1) = m.take (k + 1)) := fun e => by
          show _ = _
          rw [List.take_succ_eq_append_getElem hlt, List.take_succ_eq_append_getElem hlm, hA.out, e]
        generalize l[k] = a at *
        generalize m[k] = a' at *
        by_cases e1 : a.1 = a'.1
        · by_cases e2 : a.2 = a'.2
          · have e3 : a = a' := Prod.ext e1 e2
            have HT := hst e3
            subst e3
            clear hno hst e1 e2 hA
            go_wp2_with fail
            go_region
            all_goals go_wp2_with fail
            all_goals go_roundw
            case rel => exact ⟨k + 1, by omega, by go_num, HT, hK.drew⟩
            case measure => simp [intOf]; omega
          · have HN : Hid ((l == m) = false) := hno (fun e => e2 (by rw [e]))
            clear hno hst hA
            rw [← e1] at c0'
            clear e1
            go_wp2_with fail
            go_region
            all_goals go_wp2_with fail
            all_goals go_ret
            all_goals exact ⟨by rw [HN.out]; rfl, hK.drew⟩
        · have HN : Hid ((l == m) = false) := hno (fun e => e1 (by rw [e]))
          clear hno hst hA
          go_wp2_with fail
          go_region
          all_goals go_wp2_with fail
          all_goals go_ret
          all_goals exact ⟨by rw [HN.out]; rfl, hK.drew⟩
      · obtain rfl : k = l.length := by omega
        have HY : Hid ((l == m) = true) := runs_eq HQ.out hA.out
        clear hA
        go_wp2_with fail
        go_ret
        exact ⟨by rw [HY.out]; rfl, hK⟩
  · have hq : ((l.length : Int) == (m.length : Int)) = false := by simp; omega
    have HN : Hid ((l == m) = false) := runs_ne_len hne
    clear hne
    go_enter Tryz.func85, Tryz.ntmps85
    go_wp2_with fail
    go_ret
    exact ⟨by rw [HN.out]; rfl, Kept.refl _ _⟩
/-- the same superblock? -/
def SB.same (a b : SB) : Bool := a.seq == b.seq && a.sectors == b.sectors && a.journal == b.journal && a.used == b.used && a.size == b.size && a.runs == b.runs
end Go.Proofs.YtakdnchmehmdhaaGreat

/- A slice of structs that came in: each element's cells, one behind another, read as an element of a list. -/
namespace Go.Proofs.YtakdnchmehmdhaaGreat
open Go.ChangeShapes Go.WideShapes Go.ChangeAt Go.RowKit Go.Deep
set_option linter.unusedVariables false
set_option linter.unusedSimpArgs false

/-- the slice v of elements of k cells reads as l; R: these cells are those of an element. -/
def RowsOf {α : Type} (k : Nat) (R : World → List Value → α → Prop) (w : World) (v : Value) (l : List α) (lo hi : Nat) : Prop :=
  (l = [] ∧ ∃ a c, v = .slice a 0 c) ∨
  ∃ b off c, v = .slice (some ⟨b, off, none⟩) l.length c ∧ (∀ i (h : i < l.length), ∃ cs, cs.length = k ∧ R w cs l[i] ∧ ∀ j u, cs[j]? = some u → w.cell? ⟨b, off + (i * k + j), none⟩ = some u) ∧ lo ≤ b ∧ b < hi ∧ hi ≤ w.heap.size ∧ l ≠ [] ∧ l.length ≤ c ∧ c ≤ maxLen
section
variable {α : Type} {k : Nat} {R : World → List Value → α → Prop} {w w' : World} {v : Value} {l : List α} {lo hi : Nat}
theorem RowsOf.kept {S : List Nat} (h : RowsOf k R w v l lo hi) (kk : Kept S w w') (hS : ∀ x ∈ S, x < lo ∨ hi ≤ x) (hR : ∀ cs a, R w cs a → R w' cs a) : RowsOf k R w' v l lo hi := by
  rcases h with h | ⟨b, off, c, h1, h2, h3, h4, h5, h6, h7, h8⟩
  · exact Or.inl h
  · refine Or.inr ⟨b, off, c, h1, fun i hi => ?_, h3, h4, Nat.le_trans h5 kk.size, h6, h7, h8⟩
    have hb : b ∉ S := fun hb => by have := hS b hb; omega
    obtain ⟨cs, e1, e2, e3⟩ := h2 i hi
    refine ⟨cs, e1, hR _ _ e2, fun j u hu => ?_⟩
    rw [kk.cell (by show b < _; omega) hb]
    exact e3 j u hu
theorem RowsOf.shape (h : RowsOf k R w v l lo hi) : ∃ p c, v = .slice p l.length c := by
  rcases h with ⟨rfl, a, c, rfl⟩ | ⟨b, off, c, rfl, _⟩
  · exact ⟨a, c, rfl⟩
  · exact ⟨_, c, rfl⟩
theorem RowsOf.len (h : RowsOf k R w v l lo hi) : l.length ≤ maxLen := by
  rcases h with ⟨rfl, a, c, rfl⟩ | ⟨b, off, c, rfl, _, _, _, _, _, h7, h8⟩
  · exact Nat.zero_le _
  · omega
theorem RowsOf.at_ {p : Option Addr} {n c : Nat} (h : RowsOf k R w (.slice p n c) l lo hi) (i : Nat) (hi' : i < l.length) :
    ∃ b off cs, p = some ⟨b, off, none⟩ ∧ cs.length = k ∧ R w cs l[i] ∧ (∀ j u, cs[j]? = some u → w.cell? ⟨b, off + (i * k + j), none⟩ = some u) ∧ lo ≤ b ∧ b < hi ∧ hi ≤ w.heap.size := by
  rcases h with ⟨rfl, _⟩ | ⟨b, off, c', e, h2, h3, h4, h5, _, h6, h7⟩
  · simp at hi'
  · simp at e
    obtain ⟨e1, rfl, rfl⟩ := e
    obtain ⟨cs, q1, q2, q3⟩ := h2 i hi'
    exact ⟨b, off, cs, e1, q1, q2, q3, h3, h4, h5⟩
end
theorem rows_of_trod {H : Type} {enc : TypeId × Value → H} {P : Program} {w : World} {base : Nat} {held : Bool} {α : Type} [Inhabited α] {k : Nat} {R : World → List Value → α → Prop} {t e : TypeId} {fuel : Nat} {c : Value} {x : DataW H × List MemPlace}
    (ht : P.underlying t = some (.slice e)) (hk : P.cellsOf e = k) (hk0 : 0 < k)
    (hR : ∀ n cs y, DataW.trod enc P w base (fun _ => true) held n e cs = some y → cs.length = k → ∃ a, R w cs a)
    (h : DataW.trod enc P w base (fun _ => true) held fuel t [c] = some x) : ∃ l, RowsOf k R w c l 0 w.heap.size := by
  rcases open_slice ht h with ⟨e1, _⟩ | ⟨a, len, cap, m, n, D, Pl, e1, hb, hl, hm, hmm, _, hx⟩
  · injection e1 with e1
    exact ⟨[], Or.inl ⟨rfl, _, _, e1⟩⟩
  · injection e1 with e1
    subst e1
    simp only [if_true] at hmm
    subst hmm
    rw [hk] at hx
    by_cases h0 : len = 0
    · subst h0; exact ⟨[], Or.inl ⟨rfl, _, _, rfl⟩⟩
    · obtain ⟨q, hq⟩ := choose_lt (α := α × List Value) (n := len) (p := fun i q => q.2.length = k ∧ R w q.2 q.1 ∧ ∀ j, j < k → w.cell? ((a.add (i * k)).add j) = q.2[j]?) (fun i hi => by
        obtain ⟨cs', q1, q2⟩ := hx i (by omega)
        obtain ⟨_, q3, q4⟩ := World.cells?_some q1
        obtain ⟨z, hz⟩ := hR _ _ _ q2 q3
        exact ⟨(z, cs'), q3, hz, q4⟩)
      obtain ⟨b, off, spot⟩ := a
      have hc0 : ∃ u, w.cell? (((⟨b, off, spot⟩ : Addr).add (0 * k)).add 0) = some u := by
        obtain ⟨e1, _, e2⟩ := hq 0 (by omega)
        rw [e2 0 hk0]
        exact ⟨_, List.getElem?_eq_getElem (by omega)⟩
      obtain ⟨u0, hu0⟩ := hc0
      have hspot : spot = none := by simpa [Addr.add] using World.cell?_spot hu0
      subst hspot
      have hblt : b < w.heap.size := by
        rw [Go.WideShapes.add_plain, Go.WideShapes.add_plain] at hu0
        exact World.block_lt_of_cell? _ _ hu0
      refine ⟨(List.range len).map fun i => (q i).1, Or.inr ⟨b, off, m, by simp, fun i hi => ?_, Nat.zero_le _, hblt, Nat.le_refl _, fun e => ?_, by simpa using hl, hm⟩⟩
      · have hi' : i < len := by simpa using hi
        obtain ⟨e1, e2, e3⟩ := hq i hi'
        refine ⟨(q i).2, e1, by simpa using e2, fun j u hu => ?_⟩
        have hj : j < k := by
          have := (List.getElem?_eq_some_iff.1 hu).1; omega
        have := e3 j hj
        rw [Go.WideShapes.add_plain, Go.WideShapes.add_plain, Nat.add_assoc] at this
        rw [this, hu]
      · have := congrArg List.length e
        simp at this; omega
end Go.Proofs.YtakdnchmehmdhaaGreat

/- Layer 13 (journal): a record; which fields a kind has; whether runs may be those of so many bytes. -/
namespace Go.Proofs.YtakdnchmehmdhaaGreat
open Go.RowKit
set_option linter.unusedVariables false
set_option linter.unusedSimpArgs false

/-- a record. -/
structure JRec where
  kind : Int
  id : Int
  name : List UInt8
  size : Int
  runs : List (Int × Int)
deriving Inhabited
def JRec.cells (r : JRec) (v : Value) : Array Value := #[.int .i64 r.kind, .int .u32 r.id, .string (bs r.name), .int .i64 r.size, v]
def kId (k : Int) : Bool := k == 1 || k == 2 || k == 4 || k == 5
def kName (k : Int) : Bool := k == 3 || k == 6
def kBlob (k : Int) : Bool := k == 1 || k == 2 || k == 3
theorem kind_cases (k : Int) : k = 1 ∨ k = 2 ∨ k = 3 ∨ k = 4 ∨ k = 5 ∨ k = 6 ∨ ((k == 1) = false ∧ (k == 2) = false ∧ (k == 3) = false ∧ (k == 4) = false ∧ (k == 5) = false ∧ (k == 6) = false) := by
  by_cases h1 : k = 1
  · exact Or.inl h1
  by_cases h2 : k = 2
  · exact Or.inr (Or.inl h2)
  by_cases h3 : k = 3
  · exact Or.inr (Or.inr (Or.inl h3))
  by_cases h4 : k = 4
  · exact Or.inr (Or.inr (Or.inr (Or.inl h4)))
  by_cases h5 : k = 5
  · exact Or.inr (Or.inr (Or.inr (Or.inr (Or.inl h5))))
  by_cases h6 : k = 6
  · exact Or.inr (Or.inr (Or.inr (Or.inr (Or.inr (Or.inl h6)))))
  simp [h1, h2, h3, h4, h5, h6]
set_option maxRecDepth 100000 in
set_option maxHeartbeats 1000000 in
theorem jhas (k : Int) (w : World) : Calls Tryz.prog 98 #[.int .i64 k] w fun e w' => e = .returned (.tuple #[.bool (kId k), .bool (kName k), .bool (kBlob k)]) ∧ w = w' := by
  rcases kind_cases k with rfl | rfl | rfl | rfl | rfl | rfl | ⟨h1, h2, h3, h4, h5, h6⟩
  iterate 6
    · go_enter Tryz.func98, Tryz.ntmps98
      go_wp2_with fail
      go_ret3
      exact ⟨rfl, rfl⟩
  · have e1 : kId k = false := by unfold kId; rw [h1, h2, h4, h5]; rfl
    have e2 : kName k = false := by unfold kName; rw [h3, h6]; rfl
    have e3 : kBlob k = false := by unfold kBlob; rw [h1, h2, h3]; rfl
    rw [e1, e2, e3]
    clear e1 e2 e3
    go_enter Tryz.func98, Tryz.ntmps98
    go_wp2_with fail
    go_ret3
    exact ⟨rfl, rfl⟩
set_option maxRecDepth 100000 in
set_option maxHeartbeats 1000000 in
theorem qhas (k : Int) (w : World) : Calls Tryz.prog 77 #[.int .i64 k] w fun e w' => e = .returned (.tuple #[.bool (kId k), .bool (kName k), .bool (kBlob k)]) ∧ w = w' := by
  rcases kind_cases k with rfl | rfl | rfl | rfl | rfl | rfl | ⟨h1, h2, h3, h4, h5, h6⟩
  iterate 6
    · go_enter Tryz.func77, Tryz.ntmps77
      go_wp2_with fail
      go_ret3
      exact ⟨rfl, rfl⟩
  · have e1 : kId k = false := by unfold kId; rw [h1, h2, h4, h5]; rfl
    have e2 : kName k = false := by unfold kName; rw [h3, h6]; rfl
    have e3 : kBlob k = false := by unfold kBlob; rw [h1, h2, h3]; rfl
    rw [e1, e2, e3]
    clear e1 e2 e3
    go_enter Tryz.func77, Tryz.ntmps77
    go_wp2_with fail
    go_ret3
    exact ⟨rfl, rfl⟩
/-- may runs be those of so many bytes? -/
def plB (l : List (Int × Int)) (n : Int) : Bool := decide (l.length ≤ 16) && (decide (0 ≤ n) && (decide (n ≤ 1048576) && (lies 0 8192 l && (sumLen l == need n))))
def PlSays (l : List (Int × Int)) (n : Int) (w : World) (e : Ending) (w' : World) : Prop := e = .returned (.bool (plB l n)) ∧ Kept [] w w'
theorem plSays_no {l : List (Int × Int)} {n : Int} {w w' : World} (h : lies 0 8192 l = false) (hk : Kept [] w w') : PlSays l n w (.returned (.bool false)) w' := by
  refine ⟨?_, hk⟩
  unfold plB
  rw [h]; simp
theorem plSays_yes {l : List (Int × Int)} {n : Int} {w w' : World} (h0 : l.length ≤ 16) (h1 : 0 ≤ n) (h2 : n ≤ 1048576) (h : lies 0 8192 l = true) (hk : Kept [] w w') : PlSays l n w (.returned (.bool (sumLen l == need n))) w' := by
  refine ⟨?_, hk⟩
  unfold plB
  rw [h, decide_eq_true h0, decide_eq_true h1, decide_eq_true h2]; simp
set_option maxRecDepth 100000 in
set_option maxHeartbeats 2000000 in
theorem jplaced (v : Value) (l : List (Int × Int)) (n : Int) (lo hi : Nat) (w : World) (h : RunsIn w v l lo hi) (hl : l.length ≤ 1000000) (hn : (Lit.int .i64 n).wf = true) :
    Calls Tryz.prog 99 #[v, .int .i64 n] w (PlSays l n w) := by
  obtain ⟨p, c, rfl⟩ := h.shape
  have hnb := bd64 hn
  rcases (by omega : 16 < l.length ∨ (l.length ≤ 16 ∧ n < 0) ∨ (l.length ≤ 16 ∧ 0 ≤ n ∧ 1048576 < n) ∨ (l.length ≤ 16 ∧ 0 ≤ n ∧ n ≤ 1048576)) with b1 | ⟨b1, b2⟩ | ⟨b1, b2, b3⟩ | ⟨b1, b2, b3⟩
  · have e : plB l n = false := by unfold plB; rw [decide_eq_false (by omega)]; rfl
    unfold PlSays
    rw [e]
    have b1' : (16 : Int) < l.length := by omega
    go_enter Tryz.func99, Tryz.ntmps99
    go_wp2_with fail
    go_ret
    exact ⟨rfl, Kept.refl _ _⟩
  · have e : plB l n = false := by unfold plB; rw [decide_eq_false (by omega : ¬ 0 ≤ n)]; simp
    unfold PlSays
    rw [e]
    have b1' : (l.length : Int) ≤ 16 := by omega
    go_enter Tryz.func99, Tryz.ntmps99
    go_wp2_with fail
    go_ret
    exact ⟨rfl, Kept.refl _ _⟩
  · have e : plB l n = false := by unfold plB; rw [decide_eq_false (by omega : ¬ n ≤ 1048576)]; simp
    unfold PlSays
    rw [e]
    have b1' : (l.length : Int) ≤ 16 := by omega
    go_enter Tryz.func99, Tryz.ntmps99
    go_wp2_with fail
    go_ret
    exact ⟨rfl, Kept.refl _ _⟩
  have b1' : (l.length : Int) ≤ 16 := by omega
  have HPN := Lib.hid (pneed n)
  have HN' := Lib.hid hn
  clear hn
  go_enter Tryz.func99, Tryz.ntmps99
  go_wp2_with fail
  go_loopw [5, 23] (fun a i wr => ∃ k : Nat, k ≤ l.length ∧ i = .int .i64 k ∧ a = .int .i64 (sumLen (l.take k)) ∧ Aside (lieTo 0 8192 l k = true) ∧ Kept [] w wr) (fun _ i _ => l.length - (intOf i).toNat)
  case atStart => exact ⟨0, by omega, rfl, by simp [sumLen], rfl, Kept.refl _ _⟩
  case round =>
    obtain ⟨k, hk, rfl, rfl, hL, hK⟩ := hrel
    by_cases hlt : k < l.length
    · obtain ⟨b, off, rfl, c0, c1, hb, hlc, hcm⟩ := (h.kept0 hK).at_ k hlt
      unfold maxLen at hcm
      have hno := lies_no 0 8192 l k hlt
      have hall : Aside (∀ m, (l.take m).all (apart l[k]) = true → m = k → okRun 0 8192 l[k] = true → lieTo 0 8192 l (k + 1) = true) := fun m h1 h2 h3 => by
        subst h2; rw [lieTo_succ 0 8192 l m hlt, hL.out, h3, h1]; rfl
      have hsum : Hid (sumLen (l.take (k + 1)) = sumLen (l.take k) + l[k].2) := sumLen_take l k hlt
      have hbd := sumLen_bd (Nat.le_of_lt hlt) hL.out (by omega) (by omega)
      have hks : (8192 : Int) * k ≤ 8192000000 := by omega
      have hnoap := all_take_no l[k] l
      rcases @okRun_cases 0 8192 l[k] with ⟨h0, hbad⟩ | ⟨h0, g1, g2, g3, g4⟩
      · have HN : Hid (lies 0 8192 l = false) := hno (by rw [h0]; rfl)
        clear hno hall hsum h0 hnoap
        generalize l[k] = a at *
        generalize sumLen (l.take k) = sm at *
        rcases hbad with g1 | ⟨g1, g2⟩ | ⟨g1, g2, g3⟩ | ⟨g1, g2, g3, g4⟩
        all_goals
          go_wp2_with fail
          go_ret
          exact plSays_no HN.out (hK.alloc _)
      · have hno2 : Hid ((l.take k).all (apart l[k]) = false → lies 0 8192 l = false) := fun hh => hno (by rw [hh, Bool.and_false])
        have H0 := Lib.hid h0
        have HA := Lib.hid hnoap
        have hstep := fun m hm => all_take_succ l[k] l m hm
        have HST := Lib.hid hstep
        have hokl := lieTo_ok (Nat.le_of_lt hlt) hL.out
        have HOK := Lib.hid hokl
        clear hno h0 hnoap hstep hokl
        generalize l[k] = a at *
        generalize sumLen (l.take k) = sm at *
        go_wp2_with fail
        obtain ⟨wo, rfl⟩ : ∃ wo : World, wo = wr := ⟨_, rfl⟩
        go_loopw [53] (fun i wr => ∃ m : Nat, m ≤ k ∧ i = .int .i64 m ∧ Aside ((l.take m).all (apart a) = true) ∧ Kept [] w wr ∧ Own wr wo.heap.size #[.int .i64 a.1, .int .i64 a.2] 48) (fun i _ => k - (intOf i).toNat)
        case atStart => exact ⟨0, by omega, rfl, rfl, hK.alloc _, Own.new _ _ _⟩
        case round =>
          obtain ⟨m, hm, rfl, hAP, hK2, ho⟩ := hrel
          obtain ⟨d0, d1⟩ := ho.c2
          have hlt3 := ho.lt
          by_cases hmk : m < k
          · obtain ⟨b', off', hbe, e0, e1, hb2, -, -⟩ := (h.kept0 hK2).at_ m (by omega)
            injection hbe with hbe
            injection hbe with hbe1 hbe2 _
            subst hbe1 hbe2
            have hob := okRun_iff.1 (HOK.out m hmk)
            have hst2 := HST.out m (by omega)
            have hap2 := HA.out m k (by omega) hmk
            have HST2 := Lib.hid hst2
            have HAP2 := Lib.hid hap2
            have hc := @apart_cases a l[m]
            clear hst2 hap2
            generalize l[m] = bb at *
            obtain ⟨q1, q2, q3, q4⟩ := hob
            rcases hc with ⟨r0, r1, r2⟩ | ⟨r0, r1⟩
            · have HN : Hid (lies 0 8192 l = false) := hno2.out (HAP2.out r0)
              clear r0 c0 c1
              go_wp2_with fail
              go_ret
              exact plSays_no HN.out (hK2.alloc _)
            · have R0 := Lib.hid r0
              clear r0 c0 c1
              rcases r1 with r1 | ⟨r1, r2⟩
              all_goals
                go_wp2_with fail
                go_roundw
                case rel => exact ⟨m + 1, by omega, by go_num, by rw [HST2.out, hAP.out, R0.out]; rfl, hK2.alloc _, ho.alloc _⟩
                case measure => simp [intOf]; omega
          · have hmk2 : m = k := by omega
            have HL : Aside (lieTo 0 8192 l (k + 1) = true) := hall.out m hAP.out hmk2 H0.out
            clear hAP c0 c1
            have hge : (k : Int) ≤ m := by omega
            clear hmk2 hmk
            go_wp2_with fail
            go_roundw
            case rel => exact ⟨k + 1, by omega, by go_num, by rw [hsum.out], HL, hK2⟩
            case measure => simp [intOf]; omega
    · obtain rfl : k = l.length := by omega
      have HY : Hid (lies 0 8192 l = true) := hL.out
      have hfin := fun wx (hk : Kept [] w wx) => plSays_yes (n := n) (w := w) (w' := wx) b1 b2 b3 HY.out hk
      have HFIN := Lib.hid hfin
      rw [List.take_length]
      clear hfin hL
      generalize sumLen l = sm at *
      have HPN2 := Lib.hid (HPN.out wr HN'.out)
      clear HPN
      generalize need n = nd at *
      go_wp2_with fail
      refine HPN2.out.mono ?_; rintro e w5 ⟨rfl, rfl⟩
      go_wp2_with fail
      go_ret
      exact HFIN.out _ hK
/-- may a record be, by its kind's fields? -/
def mayG (I N B : Bool) (id : Int) (name : List UInt8) (size : Int) (runs : List (Int × Int)) : Bool :=
  (I || N) && ((I == decide (id ≠ 0)) && (decide (id ≤ 4294967294) && ((N == !name.isEmpty) && (decide (name.length ≤ 48) && ((B || (decide (size = 0) && runs.isEmpty)) && plB runs size)))))
def mayR (r : JRec) : Bool := mayG (kId r.kind) (kName r.kind) (kBlob r.kind) r.id r.name r.size r.runs
def JRec.fits (r : JRec) : Prop := (Lit.int .i64 r.kind).wf = true ∧ (Lit.int .u32 r.id).wf = true ∧ r.name.length ≤ maxLen ∧ (Lit.int .i64 r.size).wf = true
def JCheck (m : Bool) (w : World) (e : Ending) (w' : World) : Prop := e = .returned (.int .i64 (if m then 0 else 1)) ∧ Kept [] w w'
theorem jcheck_no {m : Bool} {w w' : World} (h : m = false) (k : Kept [] w w') : JCheck m w (.returned (.int .i64 1)) w' := ⟨by rw [h]; rfl, k⟩
theorem jcheck_yes {m : Bool} {w w' : World} (h : m = true) (k : Kept [] w w') : JCheck m w (.returned (.int .i64 0)) w' := ⟨by rw [h]; rfl, k⟩
def JMay (m : Bool) (w : World) (e : Ending) (w' : World) : Prop := e = .returned (.bool m) ∧ Kept [] w w'
theorem jmay_is {m b : Bool} {w w' : World} (h : m = b) (k : Kept [] w w') : JMay m w (.returned (.bool b)) w' := ⟨by rw [h], k⟩
theorem bd32 {n : Int} (h : (Lit.int .u32 n).wf = true) : 0 ≤ n ∧ n ≤ 4294967295 := by
  simp only [Lit.wf, Bool.and_eq_true, decide_eq_true_eq] at h
  exact ⟨by have := h.1; exact this, by have := h.2; exact this⟩
theorem plB_zero : plB [] 0 = true := by decide
theorem name_cases (l : List UInt8) : (l = [] ∧ (bs l).toList.isEmpty = true ∧ (bs l).toList = [] ∧ l.length = 0) ∨ (l.isEmpty = false ∧ (bs l).toList.isEmpty = false ∧ 1 ≤ l.length) := by
  cases l with
  | nil => exact Or.inl ⟨rfl, by rw [bs_toList]; rfl, by rw [bs_toList], rfl⟩
  | cons a t => exact Or.inr ⟨rfl, by rw [bs_toList]; rfl, by simp⟩
end Go.Proofs.YtakdnchmehmdhaaGreat
