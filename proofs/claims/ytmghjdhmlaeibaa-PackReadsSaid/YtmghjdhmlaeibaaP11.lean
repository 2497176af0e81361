/- Layer 1's reference lists, and one step of both readers. -/
import Derived.Test.YtmghjdhmlaeibaaP10
namespace Go.Proofs.Ytmghjdhmlaeibaa
open Go.RowKit
set_option linter.unusedVariables false
set_option linter.unusedSimpArgs false

theorem takeR_err {x : Int} (hx : x ≠ 0) (n : Int) (l : List UInt8) : takeR n l x = ([], l, x) := if_pos hx
theorem textR_err {x : Int} (hx : x ≠ 0) (l : List UInt8) : textR l x = ([], l, x) := by
  unfold textR lenR numR
  simp only [takeR_err hx, leL]
  rw [if_neg (by omega)]
  exact takeR_err hx _ _
theorem itemsR_err {x : Int} (hx : x ≠ 0) (n : Nat) (l : List UInt8) : itemsR [] n l x = ([], l, x) := by
  cases n with
  | zero => rfl
  | succ n => rw [itemsR, textR_err hx, if_neg hx]

theorem itemsR_len (acc : List (List UInt8)) (n : Nat) (l : List UInt8) (x : Int) : (itemsR acc n l x).1.length ≤ acc.length + n := by
  induction n generalizing acc l x with
  | zero => simp [itemsR]
  | succ n ih =>
    rw [itemsR]; split
    · have := ih (acc ++ [(textR l x).1]) (textR l x).2.1 0
      simp at this; omega
    · simp
theorem listR_len (l : List UInt8) (x : Int) : (listR l x).1.length ≤ 65536 := by
  have h1 := itemsR_len [] (lenR 65536 l x).1 (lenR 65536 l x).2.1 (lenR 65536 l x).2.2
  have h2 := lenR_le 65536 l x
  unfold listR; simp only
  simp at h1; omega

set_option maxRecDepth 100000 in
theorem rrList (b : Nat) (l : List UInt8) (x : Int) (w : World) (hR : RrAt w b l x) :
    Calls Try.prog 62 #[.pointer (some ⟨b, 0, none⟩)] w fun r w' => (∃ v, r = .returned v ∧ StrsIn w' v ((listR l x).1.map bs) w.heap.size w'.heap.size) ∧ RrAt w' b (listR l x).2.1 (listR l x).2.2 ∧ Kept [b] w w' := by
  have hb := hR.lt
  have hn : Calls Try.prog 60 #[.pointer (some ⟨b, 0, none⟩), .int .i64 4] w fun r w' => r = .returned (.int .u64 (numR 4 l x).1) ∧ RrAt w' b (numR 4 l x).2.1 (numR 4 l x).2.2 ∧ Kept [b] w w' := rrNum b 4 l x w hR (by omega)
  have hi : (Try.prog.info? 9).map (fun i => (i.zero, i.size, i.bytes)) = some (some (.string ByteArray.empty), 1, 16) := by kernel_rfl
  obtain ⟨i0, hi0, hz0, hz1, hz2⟩ := info_parts hi
  unfold listR lenR
  simp only
  have hnn := numR_lt 4 l x
  generalize numR 4 l x = u at *
  by_cases hlt : 65536 < u.1
  · rw [if_pos hlt]
    have hk0 : keepErr 2 u.2.2 ≠ 0 := keepErr_any (by decide)
    have hlt' : (65536 : Int) < u.1 := by omega
    have hlt2 : (u.1 : Int) < 4294967296 := by omega
    have hkb : (keepErr 2 u.2.2 == 0) = false := by simpa using hk0
    have hkb2 : (keepErr 2 u.2.2 != 0) = true := by simpa using hk0
    rw [itemsR]
    have hf := fun w1 (h : RrAt w1 b u.2.1 u.2.2) => rrFail b u.2.1 u.2.2 2 w1 h (by decide)
    generalize keepErr 2 u.2.2 = ke at *
    clear hlt hnn
    generalize (u.1 : Int) = n at *
    go_enter Try.func62, Try.ntmps62
    go_wp2_with fail
    refine hn.mono ?_; rintro e w1 ⟨rfl, hR1, hk1⟩
    go_wp2_with fail
    refine (hf _ hR1).mono ?_; rintro e w2 ⟨rfl, hR2, hk2⟩
    have c2 := hR2.err
    go_wp2_with fail
    go_loopw [5] (fun i wr => i = .int .u64 0 ∧ wr = w2) (fun _ _ => 0)
    case atStart => exact ⟨rfl, rfl⟩
    case round =>
      obtain ⟨rfl, rfl⟩ := hrel
      go_wp2_with fail
      go_ret
      exact ⟨⟨_, rfl, Or.inl ⟨rfl, _, _, rfl⟩⟩, hR2, hk1.trans hk2⟩
  · rw [if_neg hlt]
    have hle : (u.1 : Int) ≤ 65536 := by omega
    obtain ⟨F, hF⟩ : ∃ F, itemsR [] u.1 u.2.1 u.2.2 = F := ⟨_, rfl⟩
    have hA : Aside (u.2.2 = 0 → itemsR [] u.1 u.2.1 u.2.2 = F) := fun _ => hF
    have hA' : Aside (u.2.2 ≠ 0 → ([], u.2.1, u.2.2) = F) := fun h => by rw [← hF]; exact (itemsR_err h _ _).symm
    rw [hF]
    clear hF hlt hnn
    obtain ⟨N, hN⟩ : ∃ N : Nat, u.1 = N := ⟨_, rfl⟩
    rw [hN] at hA hle hn
    clear hN
    go_enter Try.func62, Try.ntmps62
    go_wp2_with fail
    refine hn.mono ?_; rintro e w1 ⟨rfl, hR1, hk1⟩
    go_wp2_with fail
    go_loopw [4, 5] (fun v i wr => ∃ (acc : List (List UInt8)) (l' : List UInt8) (x' : Int) (p : Option Addr) (cap : Nat), v = .slice p acc.length cap ∧ i = .int .u64 acc.length ∧ acc.length ≤ N ∧
      wr.ownsRow w.heap.size 9 1 (.slice p acc.length cap) acc.length (strs acc) ∧ RrAt wr b l' x' ∧ Kept [b] w wr ∧ Aside (x' = 0 → itemsR acc (N - acc.length) l' x' = F) ∧ Aside (x' ≠ 0 → ([], l', x') = F)) (fun _ i _ => N - (intOf i).toNat)
    case atStart => exact ⟨[], u.2.1, u.2.2, none, 0, rfl, rfl, Nat.zero_le _, World.ownsRow_nil _ _ _ _, hR1, hk1, hA, hA'⟩
    case round =>
      obtain ⟨acc, l', x', p, cap, rfl, rfl, hlen, hown, hR2, hk2, hA2, hA3⟩ := hrel
      have hsz : w.heap.size ≤ wr.heap.size := hk2.size
      have c2 := hR2.err
      by_cases hx : x' = 0
      · subst hx
        have hF2 := hA2.out rfl
        clear hA2 hA3 hA hA'
        by_cases hlt : acc.length < N
        · have hlt' : (acc.length : Int) < N := by omega
          have ht := rrText b l' 0 wr hR2
          obtain ⟨m, hm⟩ : ∃ m, N - acc.length = m + 1 := ⟨N - acc.length - 1, by omega⟩
          rw [hm, itemsR] at hF2
          have hB2 : Aside ((textR l' 0).2.2 = 0 → itemsR (acc ++ [(textR l' 0).1]) m (textR l' 0).2.1 (textR l' 0).2.2 = F) := fun h => by
            rw [if_pos h] at hF2; rw [h]; exact hF2
          have hB3 : Aside ((textR l' 0).2.2 ≠ 0 → ([], (textR l' 0).2.1, (textR l' 0).2.2) = F) := fun h => by
            rw [if_neg h] at hF2; exact hF2
          have hm2 : Hid (m = N - (acc ++ [(textR l' 0).1]).length) := by show m = _; simp; omega
          clear hF2 hm
          generalize textR l' 0 = t at *
          have H1 := Lib.hid hlen
          clear hlen
          go_wp2_with fail
          refine ht.mono ?_; rintro e w2 ⟨rfl, hR3, hk3⟩
          have hown2 := ownsRow_kept hown hk3 (by simpa using hb)
          have hs2 : w.heap.size ≤ w2.heap.size := Nat.le_trans hsz hk3.size
          clear hown
          go_wp2_with (at_builtin; go_must (refine wpList_append_own _ rfl _ _ 25 rfl w.heap.size 9 i0 (.string ByteArray.empty) 1 16 Try.underlying25 hi0 hz0 hz1 hz2 rfl (by decide) _ _ _ rfl (hown2.alloc _) ⟨w2.heap.size, 0, none⟩ 1 1 [.string (bs t.1)] rfl rfl ?c1 ?c2 ?c3 ?c4 ?c5 ?_))
          case c1 => exact cell_one_new _ _ _
          case c2 => intro u hu; simp at hu; subst hu; rfl
          case c3 => unfold maxLen; omega
          case c4 => omega
          case c5 => simp; omega
          intro v' w3 hown3 hgr _
          obtain ⟨p', cap', rfl⟩ := own_shape hown3
          have hk4 : Kept [b] w w3 := ((hk2.trans hk3).alloc _).grown hgr (fun k hk => Or.inr (hown2.lt k hk).1)
          have hR4 : RrAt w3 b t.2.1 t.2.2 := by
            obtain ⟨S, a, hO, hrest⟩ := hR3
            refine ⟨S, a, ?_, hrest⟩
            have hR3' := Own.alloc hO (.cells #[.string (bs t.1)] 9)
            refine Eq.trans (hgr.block b (by simp; have := Own.lt hO; omega) (fun e => ?_)) hR3'
            have := (hown2.lt b e.symm).1; omega
          rw [strs_snoc] at hown3
          clear hgr hR3 hk3 hk2 hown2 c2
          go_wp2_with fail
          go_roundw
          case measure => simp [intOf]; omega
          case rel =>
            have hm3 := hm2.out
            exact ⟨acc ++ [t.1], t.2.1, t.2.2, p', cap', by simp, by simp, by have := H1.out; simp; omega, by simpa using hown3, hR4, hk4, by rw [← hm3]; exact hB2, hB3⟩
        · have hlt' : (N : Int) ≤ acc.length := by omega
          have hF3 : Aside ((acc, l', (0 : Int)) = F) := by
            show _ = _
            rw [← hF2, show N - acc.length = 0 from by omega]; rfl
          have hown' := StrsIn.of_own (l := acc.map bs) hown
          clear hF2 hlen hown hlt
          go_wp2_with fail
          go_ret
          rw [← hF3.out]
          exact ⟨⟨_, rfl, hown'⟩, hR2, hk2⟩
      · have hF3 := Lib.hid (hA3.out hx)
        have hd : (x' == 0) = false := by simpa using hx
        have hd2 : (x' != 0) = true := by simpa using hx
        clear hA2 hA3 hA hA' hown
        by_cases hlt : (acc.length : Int) < N
        · clear hlen
          go_wp2_with fail
          go_ret
          rw [← hF3.out]
          exact ⟨⟨_, rfl, Or.inl ⟨rfl, _, _, rfl⟩⟩, hR2, hk2⟩
        · clear hlen
          go_wp2_with fail
          go_ret
          rw [← hF3.out]
          exact ⟨⟨_, rfl, Or.inl ⟨rfl, _, _, rfl⟩⟩, hR2, hk2⟩

set_option maxRecDepth 100000 in
theorem rdList_nil (w : World) : Calls Try.prog 14 #[.pointer none] w fun r w' => r = .returned (.slice none 0 0) ∧ w = w' := by
  go_enter Try.func14, Try.ntmps14
  go_wp2_with fail
  go_step3
  go_wp2_with fail
  rw [Exit.noGoto_ret]
  go_ret
  exact ⟨rfl, rfl⟩

/-- both readers stand alike. -/
def BothAt (w : World) (b b' : Nat) (l : List UInt8) (x : Int) : Prop := RdAt w b l x ∧ RrAt w b' l x ∧ b ≠ b' ∧ b < w.heap.size ∧ b' < w.heap.size

set_option maxRecDepth 100000 in
theorem step_walk (b b' : Nat) (l : List UInt8) (x n : Int) (w : World) (hn : (Lit.int .i64 n).wf = true) (hB : BothAt w b b' l x) :
    Calls Try.prog 22 #[.pointer (some ⟨b, 0, none⟩), .pointer (some ⟨b', 0, none⟩), .int .i64 n] w fun e w' => e = .returned (.bool true) ∧ (∃ l' x', BothAt w' b b' l' x') ∧ Kept [b, b'] w w' := by
  obtain ⟨hR, hQ, hne, hlt, hlt'⟩ := hB
  have fin : ∀ {w1 w2 : World} {l' : List UInt8} {x' : Int}, RdAt w1 b l' x' → Kept [b] w w1 → RrAt w2 b' l' x' → Kept [b'] w1 w2 → (∃ l' x', BothAt w2 b b' l' x') ∧ Kept [b, b'] w w2 := fun {w1 w2 l' x'} h1 h2 h3 h4 => by
    have h5 := h2.size
    have h6 := h4.size
    exact ⟨⟨l', x', h4.own h1 (by simpa using hne), h3, hne, by omega, by omega⟩, (h2.mono (by simp)).trans (h4.mono (by simp))⟩
  have get : ∀ {w1 : World}, Kept [b] w w1 → RrAt w1 b' l x := fun h => hQ.kept h (by simpa using fun e => hne e.symm)
  by_cases h0 : n = 0
  · subst h0
    have c1 := rdU8 b l x w hR
    have c2 := fun w1 (h : RrAt w1 b' l x) => rrNum b' 1 l x w1 h (by decide)
    have hu := numR_lt 1 l x
    have hu' : ((numR 1 l x).1 : Int) < 256 := by omega
    clear hu
    generalize numR 1 l x = u at *
    go_enter Try.func22, Try.ntmps22
    go_wp2_with fail
    refine c1.mono ?_; rintro e w1 ⟨rfl, hR1, k1⟩
    go_wp2_with fail
    refine (c2 _ (get k1)).mono ?_; rintro e w2 ⟨rfl, hQ2, k2⟩
    go_wp2_with fail
    go_ret
    exact ⟨rfl, fin hR1 k1 hQ2 k2⟩
  by_cases h1 : n = 1
  · subst h1
    have c1 := rdU16 b l x w hR
    have c2 := fun w1 (h : RrAt w1 b' l x) => rrNum b' 2 l x w1 h (by decide)
    have hu := numR_lt 2 l x
    have hu' : ((numR 2 l x).1 : Int) < 65536 := by omega
    clear hu
    generalize numR 2 l x = u at *
    go_enter Try.func22, Try.ntmps22
    go_wp2_with fail
    refine c1.mono ?_; rintro e w1 ⟨rfl, hR1, k1⟩
    go_wp2_with fail
    refine (c2 _ (get k1)).mono ?_; rintro e w2 ⟨rfl, hQ2, k2⟩
    go_wp2_with fail
    go_ret
    exact ⟨rfl, fin hR1 k1 hQ2 k2⟩
  by_cases h2 : n = 2
  · subst h2
    have c1 := rdU32 b l x w hR
    have c2 := fun w1 (h : RrAt w1 b' l x) => rrNum b' 4 l x w1 h (by decide)
    have hu := numR_lt 4 l x
    have hu' : ((numR 4 l x).1 : Int) < 4294967296 := by omega
    clear hu
    generalize numR 4 l x = u at *
    go_enter Try.func22, Try.ntmps22
    go_wp2_with fail
    refine c1.mono ?_; rintro e w1 ⟨rfl, hR1, k1⟩
    go_wp2_with fail
    refine (c2 _ (get k1)).mono ?_; rintro e w2 ⟨rfl, hQ2, k2⟩
    go_wp2_with fail
    go_ret
    exact ⟨rfl, fin hR1 k1 hQ2 k2⟩
  by_cases h3 : n = 3
  · subst h3
    have c1 := rdU64 b l x w hR
    have c2 := fun w1 (h : RrAt w1 b' l x) => rrNum b' 8 l x w1 h (by decide)
    generalize numR 8 l x = u at *
    go_enter Try.func22, Try.ntmps22
    go_wp2_with fail
    refine c1.mono ?_; rintro e w1 ⟨rfl, hR1, k1⟩
    go_wp2_with fail
    refine (c2 _ (get k1)).mono ?_; rintro e w2 ⟨rfl, hQ2, k2⟩
    go_wp2_with fail
    go_ret
    exact ⟨rfl, fin hR1 k1 hQ2 k2⟩
  by_cases h4 : n = 4
  · subst h4
    have c1 := rdText b l x w hR
    have c2 := fun w1 (h : RrAt w1 b' l x) => rrText b' l x w1 h
    generalize textR l x = u at *
    go_enter Try.func22, Try.ntmps22
    go_wp2_with fail
    refine c1.mono ?_; rintro e w1 ⟨rfl, hR1, k1⟩
    go_wp2_with fail
    refine (c2 _ (get k1)).mono ?_; rintro e w2 ⟨rfl, hQ2, k2⟩
    go_wp2_with fail
    go_ret
    exact ⟨rfl, fin hR1 k1 hQ2 k2⟩
  by_cases h5 : n = 5
  · subst h5
    have c1 := rdList b l x w hR hlt
    have c2 := fun w1 (h : RrAt w1 b' l x) => rrList b' l x w1 h
    have hll : (listR l x).1.length ≤ 1000000 := by have := listR_len l x; omega
    generalize listR l x = u at *
    go_enter Try.func22, Try.ntmps22
    go_wp2_with fail
    refine c1.mono ?_; rintro e w1 ⟨⟨va, rfl, hva⟩, hR1, k1⟩
    go_wp2_with fail
    refine (c2 _ (get k1)).mono ?_; rintro e w2 ⟨⟨vb, rfl, hvb⟩, hQ2, k2⟩
    have hs := rSame va vb _ _ _ _ _ w2 (hva.kept k2 (by simp; omega)) hvb (by rw [List.length_map]; exact hll)
    go_wp2_with fail
    refine hs.mono ?_; rintro e w3 ⟨rfl, k3⟩
    go_wp2_with fail
    go_ret
    exact ⟨rfl, fin hR1 k1 (hQ2.kept k3 (by simp)) (k2.trans (k3.mono (by simp)))⟩
  have hw : -9223372036854775808 ≤ n ∧ n ≤ 9223372036854775807 := by
    have := hn; simp [Lit.wf] at this; have e1 : IntKind.i64.min = -9223372036854775808 := rfl; have e2 : IntKind.i64.max = 9223372036854775807 := rfl; omega
  by_cases h6 : 6 ≤ n
  · have c1 := packTake b l x (n - 6) w hR
    have c2 := fun w1 (h : RrAt w1 b' l x) => rrTake b' l x (n - 6) w1 h
    generalize takeR (n - 6) l x = u at *
    go_enter Try.func22, Try.ntmps22
    go_wp2_with fail
    refine c1.mono ?_; rintro e w1 ⟨rfl, hR1, k1⟩
    go_wp2_with fail
    refine (c2 _ (get k1)).mono ?_; rintro e w2 ⟨rfl, hQ2, k2⟩
    go_wp2_with fail
    go_ret
    exact ⟨rfl, fin hR1 k1 hQ2 k2⟩
  · have c1 := packTake b l x n w hR
    have c2 := fun w1 (h : RrAt w1 b' l x) => rrTake b' l x n w1 h
    generalize takeR n l x = u at *
    go_enter Try.func22, Try.ntmps22
    go_wp2_with fail
    refine c1.mono ?_; rintro e w1 ⟨rfl, hR1, k1⟩
    go_wp2_with fail
    refine (c2 _ (get k1)).mono ?_; rintro e w2 ⟨rfl, hQ2, k2⟩
    go_wp2_with fail
    go_ret
    exact ⟨rfl, fin hR1 k1 hQ2 k2⟩
end Go.Proofs.Ytmghjdhmlaeibaa
