/- Layer 1's reference reader, walked. -/
import Derived.Test.YtmghjdhmlaeibaaP8
import Derived.Deep.QuietTactic
import Derived.BigQuiet
namespace Go.Proofs.Ytmghjdhmlaeibaa
open Go.RowKit
set_option linter.unusedVariables false
set_option linter.unusedSimpArgs false

/-- the reference's reader stands at b: what is left, and the first error. -/
def RrAt (w : World) (b : Nat) (l : List UInt8) (x : Int) : Prop := ∃ (S : List UInt8) (at_ : Nat), Own w b #[.string (bs S), .int .i64 at_, .int .i64 x] 39 ∧ at_ ≤ S.length ∧ S.length ≤ 1000000 ∧ l = S.drop at_ ∧ (x ≠ 0 → l = [])
theorem RrAt.lt {w : World} {b : Nat} {l : List UInt8} {x : Int} (h : RrAt w b l x) : b < w.heap.size := by
  obtain ⟨S, a, h, _⟩ := h; exact h.lt
theorem RrAt.kept {S : List Nat} {w w' : World} {b : Nat} {l : List UInt8} {x : Int} (h : RrAt w b l x) (k : Kept S w w') (hb : b ∉ S) : RrAt w' b l x := by
  obtain ⟨T, a, h1, h2⟩ := h; exact ⟨T, a, k.own h1 hb, h2⟩
theorem RrAt.err {w : World} {b : Nat} {l : List UInt8} {x : Int} (h : RrAt w b l x) : w.cell? ⟨b, 2, none⟩ = some (.int .i64 x) := by
  obtain ⟨T, a, h1, h2⟩ := h; exact h1.cell 2 (by simp)

set_option maxRecDepth 100000 in
theorem rrFail (b : Nat) (l : List UInt8) (x e : Int) (w : World) (hR : RrAt w b l x) (he : e ≠ 0) :
    Calls Try.prog 83 #[.pointer (some ⟨b, 0, none⟩), .int .i64 e] w fun r w' => r = .returned (.tuple #[]) ∧ RrAt w' b [] (keepErr e x) ∧ Kept [b] w w' := by
  obtain ⟨S, a, hO, h1, h2, h3, h4⟩ := hR
  have c0 : w.cell? ⟨b, 0, none⟩ = some (.string (bs S)) := Own.cell hO 0 (by simp)
  have c1 : w.cell? ⟨b, 1, none⟩ = some (.int .i64 a) := Own.cell hO 1 (by simp)
  have c2 : w.cell? ⟨b, 2, none⟩ = some (.int .i64 x) := Own.cell hO 2 (by simp)
  have z0 := Own.free hO 0
  have z1 := Own.free hO 1
  have z2 := Own.free hO 2
  by_cases hx : x = 0
  · subst hx
    rw [keepErr_zero]
    have hd : ((0 : Int) == 0) = true := rfl
    go_enter Try.func83, Try.ntmps83
    go_wp2_with fail
    go_end0
    refine ⟨rfl, ⟨S, S.length, ?_, Nat.le_refl _, h2, by simp, fun _ => rfl⟩, ((Kept.refl _ _).setCell (Or.inl (by simp)) _).setCell (Or.inl (by simp)) _⟩
    have h5 := (Own.set hO 2 (.int .i64 e)).set 1 (.int .i64 (bs S).size)
    rw [bs_size] at h5 ⊢
    simpa using h5
  · have hd : (x == 0) = false := by simpa using hx
    rw [keepErr_ne hx]
    have hl := h4 hx
    subst h3
    go_enter Try.func83, Try.ntmps83
    go_wp2_with fail
    go_end0
    exact ⟨rfl, ⟨S, a, hO, h1, h2, hl.symm, fun _ => rfl⟩, Kept.refl _ _⟩

set_option maxRecDepth 100000 in
theorem rrTake (b : Nat) (l : List UInt8) (x n : Int) (w : World) (hR : RrAt w b l x) :
    Calls Try.prog 63 #[.pointer (some ⟨b, 0, none⟩), .int .i64 n] w fun r w' => r = .returned (.string (bs (takeR n l x).1)) ∧ RrAt w' b (takeR n l x).2.1 (takeR n l x).2.2 ∧ Kept [b] w w' := by
  have hf := fun e w1 (h : RrAt w1 b l x) (he : e ≠ 0) => rrFail b l x e w1 h he
  have hR0 := hR
  obtain ⟨S, a, hO, h1, h2, h3, h4⟩ := hR
  have c0 : w.cell? ⟨b, 0, none⟩ = some (.string (bs S)) := Own.cell hO 0 (by simp)
  have c1 : w.cell? ⟨b, 1, none⟩ = some (.int .i64 a) := Own.cell hO 1 (by simp)
  have c2 : w.cell? ⟨b, 2, none⟩ = some (.int .i64 x) := Own.cell hO 2 (by simp)
  have z1 := Own.free hO 1
  by_cases hx : x = 0
  · subst hx
    simp only [keepErr_zero] at hf
    have hd : ((0 : Int) == 0) = true := rfl
    by_cases hn : n < 0
    · have ht : takeR n l 0 = ([], [], 1) := by simp [takeR, hn]
      rw [ht]
      clear ht
      go_enter Try.func63, Try.ntmps63
      go_wp2_with fail
      refine (hf 1 _ hR0 (by decide)).mono ?_; rintro e w1 ⟨rfl, hR1, hk⟩
      go_wp2_with fail
      go_ret
      exact ⟨rfl, hR1, hk⟩
    · have hn0 : 0 ≤ n := by omega
      have hsz : ((bs S).size : Int) = S.length := by rw [bs_size]
      have hll : l.length = S.length - a := by rw [h3]; simp
      have e1 : IntKind.i64.wrap (((bs S).size : Int) - (a : Int)) = (l.length : Int) := by rw [IntWalk.i64_in _ (by omega)]; omega
      have e1' : ((bs S).size : Int) - (a : Int) = (l.length : Int) := by omega
      have hbl : (l.length : Int) ≤ 1000000 := by omega
      by_cases hl : (l.length : Int) < n
      · have ht : takeR n l 0 = ([], [], 10) := by simp [takeR, hn, hl]
        rw [ht]
        clear ht
        go_enter Try.func63, Try.ntmps63
        go_wp2_with fail
        go_quiet (fail)
        go_wp2_with fail
        refine (hf 10 _ ⟨S, a, hO.drewN _, h1, h2, h3, h4⟩ (by decide)).mono ?_; rintro e w1 ⟨rfl, hR1, hk⟩
        go_wp2_with fail
        go_ret
        exact ⟨rfl, hR1, ((Kept.refl _ _).drewN _).trans hk⟩
      · have ht : takeR n l 0 = (l.take n.toNat, l.drop n.toNat, 0) := by simp [takeR, hn, hl]
        rw [ht]
        obtain ⟨k, rfl⟩ := Int.eq_ofNat_of_zero_le hn0
        have e2 : IntKind.i64.wrap ((a : Int) + (k : Int)) = ((a + k : Nat) : Int) := by rw [IntWalk.i64_in _ (by omega)]; omega
        have e3 : (bs S).extract a (a + k) = bs (l.take k) := by rw [bs_extract, h3]; simp
        have hk2 : a + k ≤ (bs S).size := by omega
        clear ht hf
        go_enter Try.func63, Try.ntmps63
        go_wp2_with fail
        go_quiet (fail)
        go_wp2_with fail
        go_quiet (fail)
        go_wp2_with fail
        go_ret
        refine ⟨?_, ⟨S, a + k, ?_, by omega, h2, by rw [h3]; simp, fun h => absurd rfl h⟩, ((Kept.refl _ _).drewN _).setCell (Or.inl (by simp)) _⟩
        · show Ending.returned (Value.string ((bs S).extract a (a + k))) = _
          rw [e3]; rfl
        · have h5 := fun n => (Own.drewN hO n).set 1 (.int .i64 ((a : Int) + k))
          simpa using h5 _
  · have ht : takeR n l x = ([], l, x) := by simp [takeR, hx]
    rw [ht]
    have hd : (x == 0) = false := by simpa using hx
    have hd2 : (x != 0) = true := by simpa using hx
    clear ht
    go_enter Try.func63, Try.ntmps63
    go_wp2_with fail
    go_ret
    exact ⟨rfl, hR0, Kept.refl _ _⟩

theorem le_step (t : List UInt8) (j : Nat) (hj : j < t.length) (hl : t.length ≤ 8) (hb : j < (bs t).size) :
    leL (t.drop (j + 1)) < 256 ^ 7 ∧ (leL (t.drop (j + 1)) : Int) * 256 + ((bs t)[j].toNat : Int) = (leL (t.drop j) : Int) := by
  have h1 : t.drop j = t[j] :: t.drop (j + 1) := List.drop_eq_getElem_cons hj
  have h2 := leL_lt (t.drop (j + 1))
  have h3 : (256 : Nat) ^ (t.drop (j + 1)).length ≤ 256 ^ 7 := Nat.pow_le_pow_right (by decide) (by simp; omega)
  refine ⟨by omega, ?_⟩
  rw [h1, leL]
  have hg : (bs t)[j] = t[j] := rfl
  rw [hg]; omega

set_option maxRecDepth 100000 in
theorem rrNum (b k : Nat) (l : List UInt8) (x : Int) (w : World) (hR : RrAt w b l x) (hk : k ≤ 8) :
    Calls Try.prog 60 #[.pointer (some ⟨b, 0, none⟩), .int .i64 k] w fun r w' => r = .returned (.int .u64 (numR k l x).1) ∧ RrAt w' b (numR k l x).2.1 (numR k l x).2.2 ∧ Kept [b] w w' := by
  have ht := rrTake b l x k w hR
  have htl := takeR_len k l x
  unfold numR
  generalize takeR (k : Int) l x = t at *
  have hlen : t.1.length ≤ 8 := by omega
  have hsz : ((bs t.1).size : Int) = t.1.length := by rw [bs_size]
  have hsz2 : (bs t.1).size = t.1.length := by rw [bs_size]
  go_enter Try.func60, Try.ntmps60
  go_wp2_with fail
  refine ht.mono ?_; rintro e w1 ⟨rfl, hR1, hk1⟩
  go_wp2_with fail
  go_loop [6, 7] (fun v i => ∃ j : Nat, j ≤ t.1.length ∧ i = .int .i64 ((j : Int) - 1) ∧ v = .int .u64 (leL (t.1.drop j))) (fun _ i => (intOf i + 1).toNat)
  case atStart => exact ⟨t.1.length, Nat.le_refl _, by go_num, by simp [leL]⟩
  case round =>
    obtain ⟨j, hj, rfl, rfl⟩ := hrel
    by_cases hlt : 0 < j
    · obtain ⟨i, rfl⟩ : ∃ i, j = i + 1 := ⟨j - 1, by omega⟩
      have hib : i < (bs t.1).size := by omega
      obtain ⟨g1, g2⟩ := le_step t.1 i (by omega) hlen hib
      have hstep := Lib.hid g2
      have g3 : (bs t.1)[i].toNat < 256 := (bs t.1)[i].toNat_lt
      clear g2
      go_wp2_with fail
      go_round
      case rel => exact ⟨i, by omega, by go_num, by rw [← hstep.out]⟩
      case measure => simp [intOf]
    · have hfin : Hid (t.1.drop j = t.1) := by
        show t.1.drop j = t.1
        rw [show j = 0 from by omega]; rfl
      go_wp2_with fail
      go_ret
      exact ⟨by show Ending.returned (Value.int .u64 (leL (t.1.drop j))) = _; rw [hfin.out], hR1, hk1⟩

set_option maxRecDepth 100000 in
theorem rrText (b : Nat) (l : List UInt8) (x : Int) (w : World) (hR : RrAt w b l x) :
    Calls Try.prog 61 #[.pointer (some ⟨b, 0, none⟩)] w fun r w' => r = .returned (.string (bs (textR l x).1)) ∧ RrAt w' b (textR l x).2.1 (textR l x).2.2 ∧ Kept [b] w w' := by
  have hn : Calls Try.prog 60 #[.pointer (some ⟨b, 0, none⟩), .int .i64 4] w fun r w' => r = .returned (.int .u64 (numR 4 l x).1) ∧ RrAt w' b (numR 4 l x).2.1 (numR 4 l x).2.2 ∧ Kept [b] w w' := rrNum b 4 l x w hR (by omega)
  have hb := numR_lt 4 l x
  have hb2 : ((numR 4 l x).1 : Int) < 4294967296 := by omega
  unfold textR lenR
  simp only
  generalize numR 4 l x = u at *
  clear hb
  by_cases hlt : 65536 < u.1
  · rw [if_pos hlt]
    have hk0 : keepErr 2 u.2.2 ≠ 0 := keepErr_any (by decide)
    have e1 : takeR (0 : Nat) [] (keepErr 2 u.2.2) = ([], [], keepErr 2 u.2.2) := if_pos hk0
    simp only [e1]
    have ht := fun w1 (h : RrAt w1 b [] (keepErr 2 u.2.2)) => rrTake b [] (keepErr 2 u.2.2) u.1 w1 h
    have e2 : takeR (u.1 : Int) [] (keepErr 2 u.2.2) = ([], [], keepErr 2 u.2.2) := if_pos hk0
    rw [e2] at ht
    have hf := fun w1 (h : RrAt w1 b u.2.1 u.2.2) => rrFail b u.2.1 u.2.2 2 w1 h (by decide)
    generalize keepErr 2 u.2.2 = ke at *
    have hlt' : (65536 : Int) < u.1 := by omega
    clear e1 e2 hlt
    go_enter Try.func61, Try.ntmps61
    go_wp2_with fail
    refine hn.mono ?_; rintro e w1 ⟨rfl, hR1, hk1⟩
    go_wp2_with fail
    refine (hf _ hR1).mono ?_; rintro e w2 ⟨rfl, hR2, hk2⟩
    go_wp2_with fail
    refine (ht _ hR2).mono ?_; rintro e w3 ⟨rfl, hR3, hk3⟩
    go_wp2_with fail
    go_ret
    exact ⟨rfl, hR3, (hk1.trans hk2).trans hk3⟩
  · rw [if_neg hlt]
    have ht := fun w1 (h : RrAt w1 b u.2.1 u.2.2) => rrTake b u.2.1 u.2.2 u.1 w1 h
    generalize takeR (u.1 : Int) u.2.1 u.2.2 = t at *
    have hlt' : (u.1 : Int) ≤ 65536 := by omega
    have hun : (0 : Int) ≤ u.1 := by omega
    clear hlt
    generalize (u.1 : Int) = n at *
    go_enter Try.func61, Try.ntmps61
    go_wp2_with fail
    refine hn.mono ?_; rintro e w1 ⟨rfl, hR1, hk1⟩
    go_wp2_with fail
    refine (ht _ hR1).mono ?_; rintro e w3 ⟨rfl, hR3, hk3⟩
    go_wp2_with fail
    go_ret
    exact ⟨rfl, hR3, hk1.trans hk3⟩

set_option maxRecDepth 100000 in
theorem rrLeft (b : Nat) (l : List UInt8) (x : Int) (w : World) (hR : RrAt w b l x) :
    Calls Try.prog 23 #[.pointer (some ⟨b, 0, none⟩)] w fun r w' => r = .returned (.int .i64 l.length) ∧ ∃ n, w' = w.drewN n := by
  obtain ⟨S, a, hO, h1, h2, h3, h4⟩ := hR
  have c0 : w.cell? ⟨b, 0, none⟩ = some (.string (bs S)) := Own.cell hO 0 (by simp)
  have c1 : w.cell? ⟨b, 1, none⟩ = some (.int .i64 a) := Own.cell hO 1 (by simp)
  have hsz : ((bs S).size : Int) = S.length := by rw [bs_size]
  have hll : l.length = S.length - a := by rw [h3]; simp
  have e1 : IntKind.i64.wrap (((bs S).size : Int) - (a : Int)) = (l.length : Int) := by rw [IntWalk.i64_in _ (by omega)]; omega
  have hfin : Hid ((S.length : Int) - (a : Int) = (l.length : Int)) := by show (S.length : Int) - (a : Int) = (l.length : Int); omega
  clear h3 h4
  go_enter Try.func23, Try.ntmps23
  go_wp2_with fail
  go_quiet (fail)
  go_wp2_with fail
  go_ret
  exact ⟨by show Ending.returned (Value.int .i64 ((S.length : Int) - a)) = _; rw [hfin.out], _, rfl⟩

set_option maxRecDepth 100000 in
theorem rrEnd (b : Nat) (l : List UInt8) (x : Int) (w : World) (hR : RrAt w b l x) :
    Calls Try.prog 25 #[.pointer (some ⟨b, 0, none⟩)] w fun r w' => r = .returned (.int .i64 (endR l x)) ∧ ∃ n, w' = w.drewN n := by
  obtain ⟨S, a, hO, h1, h2, h3, h4⟩ := hR
  have c0 : w.cell? ⟨b, 0, none⟩ = some (.string (bs S)) := Own.cell hO 0 (by simp)
  have c1 : w.cell? ⟨b, 1, none⟩ = some (.int .i64 a) := Own.cell hO 1 (by simp)
  have c2 : w.cell? ⟨b, 2, none⟩ = some (.int .i64 x) := Own.cell hO 2 (by simp)
  have hsz : ((bs S).size : Int) = S.length := by rw [bs_size]
  have hll : l.length = S.length - a := by rw [h3]; simp
  by_cases hx : x = 0
  · subst hx
    have hd : decide ((0 : Int) = 0) = true := rfl
    have hd2 : ((0 : Int) == 0) = true := rfl
    by_cases hl : l = []
    · have he : endR l 0 = 0 := by simp [endR, hl]
      have hlt : ¬ ((a : Int) < ((bs S).size : Int)) := by rw [hl] at hll; simp at hll; omega
      have hlb : decide ((a : Int) < ((bs S).size : Int)) = false := decide_eq_false hlt
      rw [he]
      clear h3 h4 hll hl
      go_enter Try.func25, Try.ntmps25
      go_wp2_with fail
      go_quiet (fail)
      go_wp2_with fail
      go_ret
      exact ⟨rfl, _, rfl⟩
    · have he : endR l 0 = 7 := by simp [endR, hl]
      have hlt : ((a : Int) < ((bs S).size : Int)) := by have : 0 < l.length := List.length_pos_iff.2 hl; omega
      have hlb : decide ((a : Int) < ((bs S).size : Int)) = true := decide_eq_true hlt
      rw [he]
      clear h3 h4 hll hl
      go_enter Try.func25, Try.ntmps25
      go_wp2_with fail
      go_quiet (fail)
      go_wp2_with fail
      go_ret
      exact ⟨rfl, _, rfl⟩
  · have he : endR l x = x := by simp [endR, hx]
    have hd : (x == 0) = false := by simpa using hx
    have hd2 : decide (x = 0) = false := by simpa using hx
    rw [he]
    clear h3 h4 hll
    go_enter Try.func25, Try.ntmps25
    go_wp2_with fail
    go_quiet (fail)
    go_wp2_with fail
    go_ret
    exact ⟨rfl, _, rfl⟩
end Go.Proofs.Ytmghjdhmlaeibaa
