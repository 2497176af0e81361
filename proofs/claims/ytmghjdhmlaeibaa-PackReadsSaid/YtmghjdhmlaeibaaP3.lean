/- Walks of layer 1 (pack): lists read. -/
import Derived.Test.YtmghjdhmlaeibaaP2
import Derived.Test.YtmghjdhmlaeibaaIn2
import Derived.Deep.LoopGhost
namespace Go.Proofs.Ytmghjdhmlaeibaa
open Go.RowKit
set_option linter.unusedVariables false
set_option linter.unusedSimpArgs false

/-- so many texts more, behind those that were read; none where one fails. -/
def itemsR : List (List UInt8) → Nat → List UInt8 → Int → List (List UInt8) × List UInt8 × Int
  | acc, 0, l, x => (acc, l, x)
  | acc, n + 1, l, x => if (textR l x).2.2 = 0 then itemsR (acc ++ [(textR l x).1]) n (textR l x).2.1 0 else ([], (textR l x).2)

/-- the next list. -/
def listR (l : List UInt8) (x : Int) : List (List UInt8) × List UInt8 × Int :=
  let u := lenR 65536 l x
  itemsR [] u.1 u.2.1 u.2.2

theorem lenR_le (most : Nat) (l : List UInt8) (x : Int) : (lenR most l x).1 ≤ most := by
  unfold lenR; simp only; split
  · exact Nat.zero_le _
  · omega

set_option maxRecDepth 100000 in
theorem rdList (b : Nat) (l : List UInt8) (x : Int) (w : World) (hR : RdAt w b l x) (hb : b < w.heap.size) :
    Calls Try.prog 14 #[.pointer (some ⟨b, 0, none⟩)] w fun r w' => (∃ v, r = .returned v ∧ StrsIn w' v ((listR l x).1.map bs) w.heap.size w'.heap.size) ∧ RdAt w' b (listR l x).2.1 (listR l x).2.2 ∧ Kept [b] w w' := by
  have hn : Calls Try.prog 56 #[.pointer (some ⟨b, 0, none⟩), .int .i64 65536] w fun r w' => r = .returned (.int .i64 (lenR 65536 l x).1) ∧ RdAt w' b (lenR 65536 l x).2.1 (lenR 65536 l x).2.2 ∧ Kept [b] w w' := rdLength b 65536 l x w hR (by omega)
  have hle := lenR_le 65536 l x
  unfold listR
  generalize lenR 65536 l x = u at *
  have hi : (Try.prog.info? 9).map (fun i => (i.zero, i.size, i.bytes)) = some (some (.string ByteArray.empty), 1, 16) := by kernel_rfl
  obtain ⟨i0, hi0, hz0, hz1, hz2⟩ := info_parts hi
  go_enter Try.func14, Try.ntmps14
  go_wp2_with fail
  go_step3
  go_wp2_with fail
  refine hn.mono ?_; rintro e w1 ⟨rfl, hR1, hk1⟩
  go_wp2_with fail
  go_step3
  go_wp2_with fail
  have hA : Aside (itemsR [] u.1 u.2.1 u.2.2 = itemsR [] u.1 u.2.1 u.2.2) := rfl
  go_loopg [4, 5] u.1 (fun m v s wr => ∃ (acc : List (List UInt8)) (l' : List UInt8) (x' : Int) (p : Option Addr) (cap : Nat), v = .slice p acc.length cap ∧ acc.length + m = u.1 ∧
      wr.ownsRow w.heap.size 9 1 (.slice p acc.length cap) acc.length (strs acc) ∧ RdAt wr b l' x' ∧ Kept [b] w wr ∧ Aside (itemsR acc m l' x' = itemsR [] u.1 u.2.1 u.2.2))
  case atStart => exact ⟨[], u.2.1, u.2.2, none, 0, rfl, by simp, World.ownsRow_nil _ _ _ _, hR1, hk1, rfl⟩
  case round =>
    obtain ⟨acc, l', x', p, cap, rfl, hlen, hown, hR2, hk2, hA2⟩ := hrel
    have hsz : w.heap.size ≤ wr.heap.size := hk2.size
    by_cases hlt : acc.length < u.1
    · have hlt' : (acc.length : Int) < u.1 := by omega
      have ht := rdText b l' x' wr hR2
      by_cases hx : (textR l' x').2.2 = 0
      · rw [hx] at ht
        have hA3 : Aside (itemsR (acc ++ [(textR l' x').1]) (gk - 1) (textR l' x').2.1 0 = itemsR [] u.1 u.2.1 u.2.2) := by
          have h := hA2.out
          obtain ⟨m, rfl⟩ : ∃ m, gk = m + 1 := ⟨gk - 1, by omega⟩
          rw [itemsR, if_pos hx] at h
          exact h
        generalize textR l' x' = t at *
        have H1 := Lib.hid hlen
        clear hA2 hx hlen hA
        go_wp2_with fail
        refine ht.mono ?_; rintro e w2 ⟨rfl, hR3, hk3⟩
        have c1 : w2.cell? ⟨b, 1, none⟩ = some (.int .i64 0) := Own.cell hR3 1 (by simp)
        have hown2 := ownsRow_kept hown hk3 (by simpa using hb)
        have hs2 : w.heap.size ≤ w2.heap.size := Nat.le_trans hsz hk3.size
        clear hown
        go_wp2_with (at_builtin; go_must (refine wpList_append_own _ rfl _ _ 25 rfl w.heap.size 9 i0 (.string ByteArray.empty) 1 16 Try.underlying25 hi0 hz0 hz1 hz2 rfl (by decide) _ _ _ rfl (hown2.alloc _) ⟨w2.heap.size, 0, none⟩ 1 1 [.string (bs t.1)] rfl rfl ?c1 ?c2 ?c3 ?c4 ?c5 ?_))
        case c1 => exact cell_one_new _ _ _
        case c2 => intro u hu; simp at hu; subst hu; rfl
        case c3 => unfold maxLen; omega
        case c4 => omega
        case c5 => simp; omega
        intro v' w3 hown3 hgr _
        obtain ⟨p', cap', rfl⟩ := own_shape hown3
        have hk4 : Kept [b] w w3 := ((hk2.trans hk3).alloc _).grown hgr (fun k hk => Or.inr (hown2.lt k hk).1)
        have hR4 : RdAt w3 b t.2.1 0 := by
          have hR3' := Own.alloc hR3 (.cells #[.string (bs t.1)] 9)
          refine Eq.trans (hgr.block b (by simp; have := Own.lt hR3; omega) (fun e => ?_)) hR3'
          have := (hown2.lt b e.symm).1; omega
        rw [strs_snoc] at hown3
        clear hgr hR3 hk3 hk2 hown2 c1
        go_wp2_with fail
        go_roundg (gk - 1)
        case measure => have := H1.out; omega
        case rel => exact ⟨acc ++ [t.1], t.2.1, 0, p', cap', by simp, by have := H1.out; simp; omega, by simpa using hown3, hR4, hk4, hA3⟩
      · have hd : ((textR l' x').2.2 == 0) = false := by simpa using hx
        have hA3 : Aside (([], (textR l' x').2) = itemsR [] u.1 u.2.1 u.2.2) := by
          have h := hA2.out
          obtain ⟨m, rfl⟩ : ∃ m, gk = m + 1 := ⟨gk - 1, by omega⟩
          rw [itemsR, if_neg hx] at h
          exact h
        generalize textR l' x' = t at *
        have H1 := Lib.hid hlen
        clear hA2 hx hlen hA
        go_wp2_with fail
        refine ht.mono ?_; rintro e w2 ⟨rfl, hR3, hk3⟩
        have c1 : w2.cell? ⟨b, 1, none⟩ = some (.int .i64 t.2.2) := Own.cell hR3 1 (by simp)
        go_wp2_with fail
        rw [Exit.noGoto_ret]
        go_ret
        rw [← hA3.out]
        exact ⟨⟨_, rfl, Or.inl ⟨rfl, _, _, rfl⟩⟩, hR3, hk2.trans hk3⟩
    · have hlt' : (u.1 : Int) ≤ acc.length := by omega
      have hA3 : Aside ((acc, l', x') = itemsR [] u.1 u.2.1 u.2.2) := by
        have h := hA2.out
        obtain rfl : gk = 0 := by omega
        rw [itemsR] at h
        exact h
      have hown' := StrsIn.of_own (l := acc.map bs) hown
      clear hA2 hlen hA hown
      go_wp2_with fail
      rw [Exit.noGoto_ret]
      go_ret
      rw [← hA3.out]
      exact ⟨⟨_, rfl, hown'⟩, hR2, hk2⟩
end Go.Proofs.Ytmghjdhmlaeibaa
