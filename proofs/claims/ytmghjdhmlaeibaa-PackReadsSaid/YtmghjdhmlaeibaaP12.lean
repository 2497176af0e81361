/- PackReads, walked. -/
import Derived.Test.YtmghjdhmlaeibaaP11
namespace Go.Proofs.Ytmghjdhmlaeibaa
open Go.RowKit
set_option linter.unusedVariables false
set_option linter.unusedSimpArgs false

theorem both_drew {w : World} {b b' : Nat} {l : List UInt8} {x : Int} (h : BothAt w b b' l x) : BothAt w.drew b b' l x := h
theorem both_kept {w w' : World} {b b' : Nat} {l : List UInt8} {x : Int} (h : BothAt w b b' l x) (k : Kept [] w w') : BothAt w' b b' l x := by
  have := k.size
  exact ⟨k.own h.1 (by simp), h.2.1.kept k (by simp), h.2.2.1, by have := h.2.2.2.1; omega, by have := h.2.2.2.2; omega⟩

/-- what both readers tell alike. -/
def Tells (w1 : World) (b b' : Nat) (n x e : Int) : Prop := ∀ w2, Kept [] w1 w2 →
  Calls Try.prog 17 #[.pointer (some ⟨b, 0, none⟩)] w2 (fun r w' => r = .returned (.int .i64 n) ∧ w2 = w') ∧
  Calls Try.prog 23 #[.pointer (some ⟨b', 0, none⟩)] w2 (fun r w' => r = .returned (.int .i64 n) ∧ ∃ n, w' = w2.drewN n) ∧
  Calls Try.prog 15 #[.pointer (some ⟨b, 0, none⟩)] w2 (fun r w' => r = .returned (.int .i64 x) ∧ w2 = w') ∧
  Calls Try.prog 24 #[.pointer (some ⟨b, 0, none⟩)] w2 (fun r w' => r = .returned (.int .i64 e) ∧ w2 = w') ∧
  Calls Try.prog 25 #[.pointer (some ⟨b', 0, none⟩)] w2 (fun r w' => r = .returned (.int .i64 e) ∧ ∃ n, w' = w2.drewN n) ∧
  w2.cell? ⟨b', 2, none⟩ = some (.int .i64 x)
theorem tells {w1 : World} {b b' : Nat} {l : List UInt8} {x : Int} (h : BothAt w1 b b' l x) : ∃ n e, Tells w1 b b' n x e := by
  refine ⟨l.length, endR l x, fun w2 k => ?_⟩
  obtain ⟨h1, h2, _⟩ := both_kept h k
  exact ⟨rdLeft b l x w2 h1, rrLeft b' l x w2 h2, rdErr b l x w2 h1, rdEnd b l x w2 h1, rrEnd b' l x w2 h2, h2.err⟩

set_option maxRecDepth 100000 in
set_option maxHeartbeats 20000000 in
theorem reads_walk (s : ByteArray) (v : Value) (l : List Int) (w : World) (_hs : s.size ≤ maxLen) (hl : IntsAt .i64 w v l) :
    Calls Try.prog 5 #[.string s, v] w fun e w' => e = .returned (.bool true) ∧ Below w.heap.size w w' := by
  obtain ⟨hwf, hl⟩ := hl
  obtain ⟨p, c, rfl⟩ : ∃ p c, v = .slice p l.length c := by
    rcases hl with ⟨rfl, a, c, rfl⟩ | ⟨b, off, c, rfl, _⟩
    · exact ⟨a, c, rfl⟩
    · exact ⟨_, c, rfl⟩
  by_cases h1 : (2000 : Int) < s.size
  · clear hl
    go_enter Try.func5, Try.ntmps5
    go_wp2_with fail
    refine (pawake _).mono ?_; rintro e w1 ⟨rfl, k⟩
    go_wp2_with fail
    go_ret
    exact ⟨rfl, k.below⟩
  · have HS := Lib.hid hl
    clear hl
    go_enter Try.func5, Try.ntmps5
    go_wp2_with fail
    refine (packRead s _).mono ?_; rintro e w1 ⟨rfl, hR, k1⟩
    have hR1 : RdAt w1 w.heap.size s.data.toList 0 := hR
    have hlt1 := Own.lt hR
    clear hR
    obtain ⟨b, hb⟩ : ∃ b, w.heap.size = b := ⟨_, rfl⟩
    rw [hb] at hR1 hlt1 ⊢
    go_wp2_with fail
    have hB0 : BothAt (w1.alloc (.cells #[.string s, .int .i64 0, .int .i64 0] 39)) b w1.heap.size s.data.toList 0 := by
      refine ⟨Own.alloc hR1 _, ⟨s.data.toList, 0, ?_, Nat.zero_le _, by rw [size_data]; omega, rfl, fun h => absurd rfl h⟩, by omega, by simp; omega, by simp⟩
      rw [bs_of]
      exact Own.new w1 _ _
    have hk0 : Kept [] w (w1.alloc (.cells #[.string s, .int .i64 0, .int .i64 0] 39)) := k1.alloc _
    have hbb : b ≤ w1.heap.size := by omega
    generalize w1.heap.size = b' at *
    go_loopw [7] (fun i wr => ∃ (k : Nat) (l' : List UInt8) (x' : Int), k ≤ l.length ∧ i = .int .i64 k ∧ BothAt wr b b' l' x' ∧ Kept [] w wr) (fun i _ => l.length - (intOf i).toNat)
    case atStart => exact ⟨0, s.data.toList, 0, Nat.zero_le _, rfl, hB0, hk0⟩
    case round =>
      obtain ⟨k, l', x', hk, rfl, hB, hkr⟩ := hrel
      by_cases hlt : k < l.length ∧ k < 60
      · obtain ⟨hlt, hlt60⟩ := hlt
        obtain ⟨bk, off, rfl, hcell⟩ : ∃ b off, p = some ⟨b, off, none⟩ ∧ wr.cell? ⟨b, off + k, none⟩ = some (.int .i64 l[k]) := by
          rcases HS.out with ⟨rfl, _⟩ | ⟨b, off, c', e, h2, h3, h4, h5, _⟩
          · simp at hlt
          · simp at e
            exact ⟨b, off, e.1, by rw [hkr.cell (by show b < _; omega) (by simp)]; exact h4 k hlt⟩
        have hst := step_walk b b' l' x' l[k] wr.drew (hwf _ (List.getElem_mem hlt)) (both_drew hB)
        have hkd := hkr.drew
        clear hB hkr
        go_wp2_with fail
        go_region_with (first
          | (go_at_call 22; refine hst.mono ?_; rintro e w2 ⟨rfl, ⟨l2, x2, hB2⟩, kk2⟩; obtain ⟨nn, ee, hT⟩ := tells hB2; have hT0 := Lib.hid hT; have c2 := (hT w2 (Kept.refl _ _)).2.2.2.2.2; clear hT)
          | (go_at_call 17; refine ((hT0.out _ ?_).1).mono ?_; (first | exact Kept.refl _ _ | exact (Kept.refl _ _).drewN _ | exact ((Kept.refl _ _).drewN _).drewN _); rintro e w' ⟨rfl, rfl⟩)
          | (go_at_call 23; refine ((hT0.out _ ?_).2.1).mono ?_; (first | exact Kept.refl _ _ | exact (Kept.refl _ _).drewN _ | exact ((Kept.refl _ _).drewN _).drewN _); rintro e w' ⟨rfl, n1, rfl⟩)
          | (go_at_call 15; refine ((hT0.out _ ?_).2.2.1).mono ?_; (first | exact Kept.refl _ _ | exact (Kept.refl _ _).drewN _ | exact ((Kept.refl _ _).drewN _).drewN _); rintro e w' ⟨rfl, rfl⟩)
          | (go_at_call 24; refine ((hT0.out _ ?_).2.2.2.1).mono ?_; (first | exact Kept.refl _ _ | exact (Kept.refl _ _).drewN _ | exact ((Kept.refl _ _).drewN _).drewN _); rintro e w' ⟨rfl, rfl⟩)
          | (go_at_call 25; refine ((hT0.out _ ?_).2.2.2.2.1).mono ?_; (first | exact Kept.refl _ _ | exact (Kept.refl _ _).drewN _ | exact ((Kept.refl _ _).drewN _).drewN _); rintro e w' ⟨rfl, n2, rfl⟩))
        all_goals
          have hkf : Kept [] w w2 := hkd.call kk2 (by simp; omega)
          clear hT0 hst c2 hkd kk2
          go_wp2_with fail
          go_roundw
          case rel => exact ⟨k + 1, l2, x2, by omega, by go_num, both_kept hB2 ((Kept.refl _ _).drewN _), hkf.drewN _⟩
          case measure => simp [intOf]; omega
      · have hn1 := fun w => rdU8_nil w
        have hn2 := fun w => rdU16_nil w
        have hn3 := fun w => rdU32_nil w
        have hn4 := fun w => rdU64_nil w
        have hn5 := fun w => packTake_nil 0 w
        have hn6 := fun w => rdText_nil w
        have hn7 := fun w => rdList_nil w
        have hn8 := fun w => rdLeft_nil w
        have hn9 := fun w => rdErr_nil w
        have hn10 := fun w => rdEnd_nil w
        clear hB HS
        by_cases hlt1 : k < l.length
        · have hlt2 : (60 : Int) ≤ k := by omega
          clear hlt
          go_wp2_with fail
          refine (hn1 _).mono ?_; rintro e w' ⟨rfl, rfl⟩
          go_wp2_with fail
          refine (hn2 _).mono ?_; rintro e w' ⟨rfl, rfl⟩
          go_wp2_with fail
          refine (hn3 _).mono ?_; rintro e w' ⟨rfl, rfl⟩
          go_wp2_with fail
          refine (hn4 _).mono ?_; rintro e w' ⟨rfl, rfl⟩
          go_wp2_with fail
          refine (hn5 _).mono ?_; rintro e w' ⟨rfl, rfl⟩
          go_wp2_with fail
          refine (hn6 _).mono ?_; rintro e w' ⟨rfl, rfl⟩
          go_wp2_with fail
          refine (hn7 _).mono ?_; rintro e w' ⟨rfl, rfl⟩
          go_wp2_with fail
          refine (hn8 _).mono ?_; rintro e w' ⟨rfl, rfl⟩
          go_wp2_with fail
          refine (hn9 _).mono ?_; rintro e w' ⟨rfl, rfl⟩
          go_wp2_with fail
          refine (hn10 _).mono ?_; rintro e w' ⟨rfl, rfl⟩
          go_wp2_with fail
          refine (pawake _).mono ?_; rintro e w3 ⟨rfl, k3⟩
          go_wp2_with fail
          go_ret
          exact ⟨rfl, (hkr.trans k3).below⟩
        · clear hlt
          go_wp2_with fail
          refine (hn1 _).mono ?_; rintro e w' ⟨rfl, rfl⟩
          go_wp2_with fail
          refine (hn2 _).mono ?_; rintro e w' ⟨rfl, rfl⟩
          go_wp2_with fail
          refine (hn3 _).mono ?_; rintro e w' ⟨rfl, rfl⟩
          go_wp2_with fail
          refine (hn4 _).mono ?_; rintro e w' ⟨rfl, rfl⟩
          go_wp2_with fail
          refine (hn5 _).mono ?_; rintro e w' ⟨rfl, rfl⟩
          go_wp2_with fail
          refine (hn6 _).mono ?_; rintro e w' ⟨rfl, rfl⟩
          go_wp2_with fail
          refine (hn7 _).mono ?_; rintro e w' ⟨rfl, rfl⟩
          go_wp2_with fail
          refine (hn8 _).mono ?_; rintro e w' ⟨rfl, rfl⟩
          go_wp2_with fail
          refine (hn9 _).mono ?_; rintro e w' ⟨rfl, rfl⟩
          go_wp2_with fail
          refine (hn10 _).mono ?_; rintro e w' ⟨rfl, rfl⟩
          go_wp2_with fail
          refine (pawake _).mono ?_; rintro e w3 ⟨rfl, k3⟩
          go_wp2_with fail
          go_ret
          exact ⟨rfl, (hkr.trans k3).below⟩
end Go.Proofs.Ytmghjdhmlaeibaa
