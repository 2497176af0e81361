/- Layer 1's reference reader, walked. -/
import Derived.Test.YtpdmnjcklpklnaaQ5
import Derived.Deep.QuietTactic
import Derived.BigQuiet
namespace Go.Proofs.Ytpdmnjcklpklnaa
open Go.RowKit
set_option linter.unusedVariables false
set_option linter.unusedSimpArgs false


theorem keepErr_any {e x : Int} (he : e ≠ 0) : keepErr e x ≠ 0 := by
  unfold keepErr; split <;> assumption
theorem takeR_ok {n : Nat} {l : List UInt8} {x : Int} (h : (takeR n l x).2.2 = 0) : x = 0 ∧ (takeR n l x).1.length = n ∧ (takeR n l x).1 ++ (takeR n l x).2.1 = l := by
  unfold takeR at h ⊢
  split at h
  · exact absurd h (by assumption)
  · split at h
    · simp at h
    · split at h
      · simp at h
      · rename_i h1 h2 h3
        rw [if_neg h1, if_neg h2, if_neg h3]
        refine ⟨by simpa using h1, by simp; omega, by simp⟩
theorem lenR_ok {m : Nat} {l : List UInt8} {x : Int} (h : (lenR m l x).2.2 = 0) : x = 0 ∧ numL (lenR m l x).1 4 ++ (lenR m l x).2.1 = l := by
  unfold lenR at h ⊢
  simp only at h ⊢
  split at h
  · exact absurd h (keepErr_any (by decide))
  · rename_i h1
    rw [if_neg h1]
    unfold numR at h ⊢
    obtain ⟨h2, h3, h4⟩ := takeR_ok (n := 4) h
    refine ⟨h2, ?_⟩
    show numL (leL (takeR (4 : Nat) l x).1) 4 ++ (takeR (4 : Nat) l x).2.1 = l
    have := numL_leL (takeR (4 : Nat) l x).1
    rw [h3] at this
    rw [this, h4]
theorem textR_ok {l : List UInt8} {x : Int} (h : (textR l x).2.2 = 0) : x = 0 ∧ textL (textR l x).1 ++ (textR l x).2.1 = l := by
  unfold textR at h ⊢
  simp only at h ⊢
  obtain ⟨h2, h3, h4⟩ := takeR_ok h
  obtain ⟨h5, h6⟩ := lenR_ok h2
  refine ⟨h5, ?_⟩
  unfold textL
  rw [h3, List.append_assoc, h4, h6]

theorem StrsIn.shape {w : World} {v : Value} {l : List ByteArray} {lo hi : Nat} (h : StrsIn w v l lo hi) : ∃ p c, v = .slice p l.length c := by
  rcases h with ⟨rfl, a, c, rfl⟩ | ⟨b, off, c, rfl, _⟩
  · exact ⟨a, c, rfl⟩
  · exact ⟨_, c, rfl⟩
theorem StrsIn.at {w : World} {p : Option Addr} {n c : Nat} {l : List ByteArray} {lo hi : Nat} (h : StrsIn w (.slice p n c) l lo hi) (i : Nat) (hi' : i < l.length) : ∃ b off, p = some ⟨b, off, none⟩ ∧ w.cell? ⟨b, off + i, none⟩ = some (.string l[i]) ∧ b < w.heap.size := by
  rcases h with ⟨rfl, _⟩ | ⟨b, off, c', e, h2, h3, h4, h5, _⟩
  · simp at hi'
  · simp at e
    exact ⟨b, off, e.1, h2 i hi', by omega⟩

theorem numL_mod (n k : Nat) : numL (n % 256 ^ k) k = numL n k := by
  have := numL_leL (numL n k)
  rw [numL_len, leL_numL] at this
  exact this
theorem takeR_lay (a r : List UInt8) (n : Nat) (h : a.length = n) : takeR n (a ++ r) 0 = (a, r, 0) := by
  subst h
  unfold takeR
  rw [if_neg (by simp), if_neg (by omega), if_neg (by simp; omega)]
  simp
theorem numR_lay (n k : Nat) (r : List UInt8) : numR k (numL n k ++ r) 0 = (n % 256 ^ k, r, 0) := by
  unfold numR
  rw [takeR_lay _ _ _ (numL_len n k), leL_numL]
theorem lenR_lay (m n : Nat) (r : List UInt8) (hm : m ≤ 65536) (h : n ≤ m) : lenR m (numL n 4 ++ r) 0 = (n, r, 0) := by
  unfold lenR
  rw [numR_lay, Nat.mod_eq_of_lt (by omega)]
  simp only
  rw [if_neg (by omega)]
theorem textR_lay (a r : List UInt8) (h : a.length ≤ 65536) : textR (textL a ++ r) 0 = (a, r, 0) := by
  unfold textR textL
  rw [List.append_assoc, lenR_lay _ _ _ (by omega) h]
  exact takeR_lay a r _ rfl

/-- the reference's reader stands at b: what is left, and the first error. -/
def RrAt (w : World) (b : Nat) (l : List UInt8) (x : Int) : Prop := ∃ (S : List UInt8) (at_ : Nat), Own w b #[.string (bs S), .int .i64 at_, .int .i64 x] 71 ∧ at_ ≤ S.length ∧ S.length ≤ 1000000 ∧ l = S.drop at_ ∧ (x ≠ 0 → l = [])
theorem RrAt.lt {w : World} {b : Nat} {l : List UInt8} {x : Int} (h : RrAt w b l x) : b < w.heap.size := by
  obtain ⟨S, a, h, _⟩ := h; exact h.lt
theorem RrAt.kept {S : List Nat} {w w' : World} {b : Nat} {l : List UInt8} {x : Int} (h : RrAt w b l x) (k : Kept S w w') (hb : b ∉ S) : RrAt w' b l x := by
  obtain ⟨T, a, h1, h2⟩ := h; exact ⟨T, a, k.own h1 hb, h2⟩
theorem RrAt.err {w : World} {b : Nat} {l : List UInt8} {x : Int} (h : RrAt w b l x) : w.cell? ⟨b, 2, none⟩ = some (.int .i64 x) := by
  obtain ⟨T, a, h1, h2⟩ := h; exact h1.cell 2 (by simp)

set_option maxRecDepth 100000 in
theorem rrFail (b : Nat) (l : List UInt8) (x e : Int) (w : World) (hR : RrAt w b l x) (he : e ≠ 0) :
    Calls Try.prog 59 #[.pointer (some ⟨b, 0, none⟩), .int .i64 e] w fun r w' => r = .returned (.tuple #[]) ∧ RrAt w' b [] (keepErr e x) ∧ Kept [b] w w' := by
  obtain ⟨S, a, hO, h1, h2, h3, h4⟩ := hR
  have c0 : w.cell? ⟨b, 0, none⟩ = some (.string (bs S)) := Own.cell hO 0 (by simp)
  have c1 : w.cell? ⟨b, 1, none⟩ = some (.int .i64 a) := Own.cell hO 1 (by simp)
  have c2 : w.cell? ⟨b, 2, none⟩ = some (.int .i64 x) := Own.cell hO 2 (by simp)
  have z0 := Own.free hO 0
  have z1 := Own.free hO 1
  have z2 := Own.free hO 2
  by_cases hx : x = 0
  · subst hx
    rw [keepErr_zero]
    have hd : ((0 : Int) == 0) = true := rfl
    go_enter Try.func59, Try.ntmps59
    go_wp2_with fail
    go_end0
    refine ⟨rfl, ⟨S, S.length, ?_, Nat.le_refl _, h2, by simp, fun _ => rfl⟩, ((Kept.refl _ _).setCell (Or.inl (by simp)) _).setCell (Or.inl (by simp)) _⟩
    have h5 := (Own.set hO 2 (.int .i64 e)).set 1 (.int .i64 (bs S).size)
    rw [bs_size] at h5 ⊢
    simpa using h5
  · have hd : (x == 0) = false := by simpa using hx
    rw [keepErr_ne hx]
    have hl := h4 hx
    subst h3
    go_enter Try.func59, Try.ntmps59
    go_wp2_with fail
    go_end0
    exact ⟨rfl, ⟨S, a, hO, h1, h2, hl.symm, fun _ => rfl⟩, Kept.refl _ _⟩

set_option maxRecDepth 100000 in
theorem rrTake (b : Nat) (l : List UInt8) (x n : Int) (w : World) (hR : RrAt w b l x) :
    Calls Try.prog 40 #[.pointer (some ⟨b, 0, none⟩), .int .i64 n] w fun r w' => r = .returned (.string (bs (takeR n l x).1)) ∧ RrAt w' b (takeR n l x).2.1 (takeR n l x).2.2 ∧ Kept [b] w w' := by
  have hf := fun e w1 (h : RrAt w1 b l x) (he : e ≠ 0) => rrFail b l x e w1 h he
  have hR0 := hR
  obtain ⟨S, a, hO, h1, h2, h3, h4⟩ := hR
  have c0 : w.cell? ⟨b, 0, none⟩ = some (.string (bs S)) := Own.cell hO 0 (by simp)
  have c1 : w.cell? ⟨b, 1, none⟩ = some (.int .i64 a) := Own.cell hO 1 (by simp)
  have c2 : w.cell? ⟨b, 2, none⟩ = some (.int .i64 x) := Own.cell hO 2 (by simp)
  have z1 := Own.free hO 1
  by_cases hx : x = 0
  · subst hx
    simp only [keepErr_zero] at hf
    have hd : ((0 : Int) == 0) = true := rfl
    by_cases hn : n < 0
    · have ht : takeR n l 0 = ([], [], 1) := by simp [takeR, hn]
      rw [ht]
      clear ht
      go_enter Try.func40, Try.ntmps40
      go_wp2_with fail
      refine (hf 1 _ hR0 (by decide)).mono ?_; rintro e w1 ⟨rfl, hR1, hk⟩
      go_wp2_with fail
      go_ret
      exact ⟨rfl, hR1, hk⟩
    · have hn0 : 0 ≤ n := by omega
      have hsz : ((bs S).size : Int) = S.length := by rw [bs_size]
      have hll : l.length = S.length - a := by rw [h3]; simp
      have e1 : IntKind.i64.wrap (((bs S).size : Int) - (a : Int)) = (l.length : Int) := by rw [IntWalk.i64_in _ (by omega)]; omega
      have e1' : ((bs S).size : Int) - (a : Int) = (l.length : Int) := by omega
      have hbl : (l.length : Int) ≤ 1000000 := by omega
      by_cases hl : (l.length : Int) < n
      · have ht : takeR n l 0 = ([], [], 10) := by simp [takeR, hn, hl]
        rw [ht]
        clear ht
        go_enter Try.func40, Try.ntmps40
        go_wp2_with fail
        go_quiet (fail)
        go_wp2_with fail
        refine (hf 10 _ ⟨S, a, hO.drewN _, h1, h2, h3, h4⟩ (by decide)).mono ?_; rintro e w1 ⟨rfl, hR1, hk⟩
        go_wp2_with fail
        go_ret
        exact ⟨rfl, hR1, ((Kept.refl _ _).drewN _).trans hk⟩
      · have ht : takeR n l 0 = (l.take n.toNat, l.drop n.toNat, 0) := by simp [takeR, hn, hl]
        rw [ht]
        obtain ⟨k, rfl⟩ := Int.eq_ofNat_of_zero_le hn0
        have e2 : IntKind.i64.wrap ((a : Int) + (k : Int)) = ((a + k : Nat) : Int) := by rw [IntWalk.i64_in _ (by omega)]; omega
        have e3 : (bs S).extract a (a + k) = bs (l.take k) := by rw [bs_extract, h3]; simp
        have hk2 : a + k ≤ (bs S).size := by omega
        clear ht hf
        go_enter Try.func40, Try.ntmps40
        go_wp2_with fail
        go_quiet (fail)
        go_wp2_with fail
        go_quiet (fail)
        go_wp2_with fail
        go_ret
        refine ⟨?_, ⟨S, a + k, ?_, by omega, h2, by rw [h3]; simp, fun h => absurd rfl h⟩, ((Kept.refl _ _).drewN _).setCell (Or.inl (by simp)) _⟩
        · show Ending.returned (Value.string ((bs S).extract a (a + k))) = _
          rw [e3]; rfl
        · have h5 := fun n => (Own.drewN hO n).set 1 (.int .i64 ((a : Int) + k))
          simpa using h5 _
  · have ht : takeR n l x = ([], l, x) := by simp [takeR, hx]
    rw [ht]
    have hd : (x == 0) = false := by simpa using hx
    have hd2 : (x != 0) = true := by simpa using hx
    clear ht
    go_enter Try.func40, Try.ntmps40
    go_wp2_with fail
    go_ret
    exact ⟨rfl, hR0, Kept.refl _ _⟩

theorem le_step (t : List UInt8) (j : Nat) (hj : j < t.length) (hl : t.length ≤ 8) (hb : j < (bs t).size) :
    leL (t.drop (j + 1)) < 256 ^ 7 ∧ (leL (t.drop (j + 1)) : Int) * 256 + ((bs t)[j].toNat : Int) = (leL (t.drop j) : Int) := by
  have h1 : t.drop j = t[j] :: t.drop (j + 1) := List.drop_eq_getElem_cons hj
  have h2 := leL_lt (t.drop (j + 1))
  have h3 : (256 : Nat) ^ (t.drop (j + 1)).length ≤ 256 ^ 7 := Nat.pow_le_pow_right (by decide) (by simp; omega)
  refine ⟨by omega, ?_⟩
  rw [h1, leL]
  have hg : (bs t)[j] = t[j] := rfl
  rw [hg]; omega

set_option maxRecDepth 100000 in
theorem rrNum (b k : Nat) (l : List UInt8) (x : Int) (w : World) (hR : RrAt w b l x) (hk : k ≤ 8) :
    Calls Try.prog 41 #[.pointer (some ⟨b, 0, none⟩), .int .i64 k] w fun r w' => r = .returned (.int .u64 (numR k l x).1) ∧ RrAt w' b (numR k l x).2.1 (numR k l x).2.2 ∧ Kept [b] w w' := by
  have ht := rrTake b l x k w hR
  have htl := takeR_len k l x
  unfold numR
  generalize takeR (k : Int) l x = t at *
  have hlen : t.1.length ≤ 8 := by omega
  have hsz : ((bs t.1).size : Int) = t.1.length := by rw [bs_size]
  have hsz2 : (bs t.1).size = t.1.length := by rw [bs_size]
  go_enter Try.func41, Try.ntmps41
  go_wp2_with fail
  refine ht.mono ?_; rintro e w1 ⟨rfl, hR1, hk1⟩
  go_wp2_with fail
  go_loop [6, 7] (fun v i => ∃ j : Nat, j ≤ t.1.length ∧ i = .int .i64 ((j : Int) - 1) ∧ v = .int .u64 (leL (t.1.drop j))) (fun _ i => (intOf i + 1).toNat)
  case atStart => exact ⟨t.1.length, Nat.le_refl _, by go_num, by simp [leL]⟩
  case round =>
    obtain ⟨j, hj, rfl, rfl⟩ := hrel
    by_cases hlt : 0 < j
    · obtain ⟨i, rfl⟩ : ∃ i, j = i + 1 := ⟨j - 1, by omega⟩
      have hib : i < (bs t.1).size := by omega
      obtain ⟨g1, g2⟩ := le_step t.1 i (by omega) hlen hib
      have hstep := Lib.hid g2
      have g3 : (bs t.1)[i].toNat < 256 := (bs t.1)[i].toNat_lt
      clear g2
      go_wp2_with fail
      go_round
      case rel => exact ⟨i, by omega, by go_num, by rw [← hstep.out]⟩
      case measure => simp [intOf]
    · have hfin : Hid (t.1.drop j = t.1) := by
        show t.1.drop j = t.1
        rw [show j = 0 from by omega]; rfl
      go_wp2_with fail
      go_ret
      exact ⟨by show Ending.returned (Value.int .u64 (leL (t.1.drop j))) = _; rw [hfin.out], hR1, hk1⟩

end Go.Proofs.Ytpdmnjcklpklnaa
