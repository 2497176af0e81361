/- Walks of layer 9 (disk): texts joined; all that stands. -/
import Derived.Test.YtkhbobjfmedimaaD9
import Derived.Test.YtkhbobjfmedimaaB1
namespace Go.Proofs.Ytkhbobjfmedimaa
open Go.RowKit Go.Maps
set_option linter.unusedVariables false
set_option linter.unusedSimpArgs false

def sumTo (l : List (List UInt8)) (k : Nat) : Nat := ((l.take k).map (·.length)).sum
theorem sumTo_succ (l : List (List UInt8)) (k : Nat) (h : k < l.length) : sumTo l (k + 1) = sumTo l k + l[k].length := by
  unfold sumTo; rw [List.take_succ_eq_append_getElem h, List.map_append, List.sum_append]; simp
theorem sumTo_le (l : List (List UInt8)) (m k : Nat) (hm : ∀ s ∈ l, s.length ≤ m) (hk : k ≤ l.length) : sumTo l k ≤ m * k := by
  induction k with
  | zero => simp [sumTo]
  | succ k ih =>
    rw [sumTo_succ l k (by omega), Nat.mul_succ]
    have := ih (by omega)
    have := hm _ (List.getElem_mem (show k < l.length by omega))
    omega
def catTo (l : List (List UInt8)) (k : Nat) : List UInt8 := (l.take k).flatten
theorem catTo_succ (l : List (List UInt8)) (k : Nat) (h : k < l.length) : catTo l (k + 1) = catTo l k ++ l[k] := by
  unfold catTo; rw [List.take_succ_eq_append_getElem h, List.flatten_append]; simp
theorem catTo_len (l : List (List UInt8)) (k : Nat) : (catTo l k).length = sumTo l k := by
  unfold catTo sumTo; rw [List.length_flatten]
theorem scell {w : World} {sb : Nat} {st : List (List UInt8)} {t : TypeId} (o : Own w sb (scells st) t) (k : Nat) (h : k < st.length) : w.cell? ⟨sb, k, none⟩ = some (.string (bs st[k])) := by
  rw [← scells_get st k h]
  exact o.cell k (by simp [scells]; exact h)
theorem flat_one (st : List (List UInt8)) (h : st.length = 1) : st.flatten = st[0]'(by omega) := by
  obtain ⟨a, rfl⟩ := List.length_eq_one_iff.1 h
  simp
set_option maxRecDepth 100000 in
set_option maxHeartbeats 2000000 in
theorem dJoin (sb : Nat) (st : List (List UInt8)) (w : World) (o : Own w sb (scells st) 9) (h1 : 1 ≤ st.length) (h2 : st.length ≤ 8192) (hm : ∀ s ∈ st, s.length ≤ 128) :
    Calls Try.prog 33 #[.slice (some ⟨sb, 0, none⟩) st.length st.length, .string ⟨#[]⟩] w fun e w' => e = .returned (.string (bs st.flatten)) ∧ Kept [] w w' := by
  have c0 := scell o 0 (by omega)
  by_cases hone : st.length = 1
  · obtain ⟨a, rfl⟩ := List.length_eq_one_iff.1 hone
    have c00 : w.cell? ⟨sb, 0, none⟩ = some (.string (bs a)) := c0
    clear c0
    rw [show [a].flatten = a by simp]
    show Calls Try.prog 33 #[.slice (some ⟨sb, 0, none⟩) 1 1, .string ⟨#[]⟩] w _
    clear o h1 h2 hm hone
    go_enter Try.func33, Try.ntmps33
    go_wp2_with fail
    go_ret
    exact ⟨rfl, Kept.refl _ _⟩
  · have n0 : ((st.length : Int) == 0) = false := by rw [beq_eq_false_iff_ne]; omega
    have n1 : ((st.length : Int) == 1) = false := by rw [beq_eq_false_iff_ne]; omega
    have hS := fun k hk => sumTo_le st 128 k hm hk
    have HS := Lib.hid hS
    have HO := Lib.hid h1
    clear hS
    go_enter Try.func33, Try.ntmps33
    go_wp2_with fail
    go_loop [5, 41] (fun t i => ∃ k : Nat, k ≤ st.length ∧ i = .int .i64 k ∧ t = .int .i64 (sumTo st k)) (fun _ i => st.length - (intOf i).toNat)
    case atStart => exact ⟨0, by omega, rfl, by simp [sumTo]⟩
    case round =>
      obtain ⟨k, hk, rfl, rfl⟩ := hrel
      have hb := HS.out k hk
      by_cases hlt : k < st.length
      · have ck := scell o k hlt
        have hz : (bs st[k]).size ≤ 128 := by rw [bs_size]; exact hm _ (List.getElem_mem hlt)
        have hzz : ((bs st[k]).size : Int) = st[k].length := by rw [bs_size]
        have hsu : Hid (sumTo st (k + 1) = sumTo st k + (bs st[k]).size) := by show _ = _; rw [bs_size]; exact sumTo_succ st k hlt
        have hb2 : (sumTo st k : Int) ≤ 1048576 := by omega
        have hkb : (k : Int) < st.length := by omega
        have HLT := Lib.hid hlt
        clear hb hzz
        generalize bs st[k] = T at *
        generalize sumTo st k = q at *
        generalize hq2 : sumTo st (k + 1) = q2 at *
        have HQ2 := Lib.hid hq2
        clear hq2
        go_wp2_with fail
        go_round
        case rel => exact ⟨k + 1, HLT.out, by go_num, by rw [HQ2.out, hsu.out]; go_num⟩
        case measure => (have hh := HLT.out; simp [intOf]; omega)
      · obtain rfl : k = st.length := by omega
        have hq : sumTo st st.length ≤ 281474976710656 := by omega
        have hq3 := hb
        have ob := Own.new w #[.pointer none, .slice none 0 0] 75
        have hgr := Try.Builder_Grow_fresh w.heap.size w.heap.size (sumTo st st.length) _ (Nat.le_refl _) ob (by simp) hq
        have hcl := catTo_len st
        have hcs := catTo_succ st
        have HCL := Lib.hid hcl
        have HCS := Lib.hid hcs
        have HB := Lib.hid hb
        have i1 : (1 : Int) < st.length := by omega
        clear hb hq3 hcl hcs hq
        generalize sumTo st st.length = q at *
        go_wp2_with fail
        refine hgr.mono ?_; rintro e w1 ⟨rfl, hb1, bl1⟩
        have k1 : Kept [] w w1 := ((Kept.refl [] w).alloc _).then_below bl1
        have hB1 : BuiltAt w1 w.heap.size w.heap.size [] := Or.inr hb1
        have o1 := k1.own o (by simp)
        have c01 := scell o1 0 (by omega)
        have hs1 := k1.size
        clear hgr ob hb1 bl1
        go_wp2_with fail
        refine (built_write w.heap.size w.heap.size [] st[0] w1 hB1 (by have := hm _ (List.getElem_mem (show 0 < st.length by omega)); simp; omega) hs1).mono ?_; rintro e w2 ⟨rfl, hB2, bl2⟩
        have k2 : Kept [] w w2 := k1.then_below bl2
        have hB2' : BuiltAt w2 w.heap.size w.heap.size (catTo st 1) := by
          have := HCS.out 0 (by omega)
          rw [show catTo st 1 = [] ++ st[0] from this]; exact hB2
        clear hB1 hB2 bl2 o1 c01
        go_wp2_with fail
        go_loopw [65] (fun i wr => ∃ k : Nat, k + 1 ≤ st.length ∧ i = .int .i64 k ∧ BuiltAt wr w.heap.size w.heap.size (catTo st (k + 1)) ∧ Kept [] w wr) (fun i _ => st.length - (intOf i).toNat)
        case atStart => exact ⟨0, by omega, rfl, hB2', k2⟩
        case round =>
          obtain ⟨k, hk, rfl, hB, hK⟩ := hrel
          have hs := hK.size
          have hcl : (catTo st (k + 1)).length ≤ 1048576 := by
            rw [HCL.out]; have := HS.out (k + 1) hk; omega
          by_cases hlt : k + 1 < st.length
          · have ck : wr.cell? ⟨sb, 1 + k, none⟩ = some (.string (bs st[k + 1])) := by rw [Nat.add_comm 1 k]; exact scell (hK.own o (by simp)) (k + 1) hlt
            have hz : st[k + 1].length ≤ 128 := hm _ (List.getElem_mem hlt)
            have hcs := HCS.out (k + 1) hlt
            have b1 : (k : Int) < (st.length : Int) - 1 := by omega
            have b2 : (k : Int) < ((st.length - 1 : Nat) : Int) := by omega
            have HLT := Lib.hid hlt
            have HC := Lib.hid hcs
            clear hcs
            generalize st[k + 1] = s at *
            generalize catTo st (k + 1) = C at *
            go_wp2_with fail
            refine (built_write w.heap.size w.heap.size C [] wr hB (by simp; omega) hs).mono ?_; rintro e w4 ⟨rfl, hB4, bl4⟩
            have k4 : Kept [] w w4 := hK.then_below bl4
            have hs4 := k4.size
            rw [List.append_nil] at hB4
            go_wp2_with fail
            refine (built_write w.heap.size w.heap.size C s w4 hB4 (by omega) hs4).mono ?_; rintro e w5 ⟨rfl, hB5, bl5⟩
            have k5 : Kept [] w w5 := k4.then_below bl5
            go_wp2_with fail
            go_roundw
            case rel => exact ⟨k + 1, by have := HLT.out; omega, by go_num, by rw [HC.out]; exact hB5, k5⟩
            case measure => (have hh := HLT.out; simp [intOf]; omega)
          · have e : catTo st (k + 1) = st.flatten := by unfold catTo; rw [show k + 1 = st.length by omega, List.take_length]
            rw [e] at hB
            have b1 : ¬ ((k : Int) < (st.length : Int) - 1) := by omega
            have b2 : ¬ ((k : Int) < ((st.length - 1 : Nat) : Int)) := by omega
            go_wp2_with fail
            refine (built_string w.heap.size w.heap.size st.flatten wr hB hs).mono ?_; rintro e w4 ⟨rfl, bl4⟩
            go_wp2_with fail
            go_ret
            exact ⟨rfl, hK.then_below bl4⟩
end Go.Proofs.Ytkhbobjfmedimaa
