/- Layer 1's reference reader, walked. -/
import Derived.Test.YtakdnchmehmdhaaGreatG15
import Derived.Deep.QuietTactic
import Derived.BigQuiet
import Derived.Deep.RegionHeld3
namespace Go.Proofs.YtakdnchmehmdhaaGreat
open Go.RowKit
set_option linter.unusedVariables false
set_option linter.unusedSimpArgs false


theorem keepErr_any {e x : Int} (he : e ≠ 0) : keepErr e x ≠ 0 := by
  unfold keepErr; split <;> assumption
theorem takeR_ok {n : Nat} {l : List UInt8} {x : Int} (h : (takeR n l x).2.2 = 0) : x = 0 ∧ (takeR n l x).1.length = n ∧ (takeR n l x).1 ++ (takeR n l x).2.1 = l := by
  unfold takeR at h ⊢
  split at h
  · exact absurd h (by assumption)
  · split at h
    · simp at h
    · split at h
      · simp at h
      · rename_i h1 h2 h3
        rw [if_neg h1, if_neg h2, if_neg h3]
        refine ⟨by simpa using h1, by simp; omega, by simp⟩
theorem StrsIn.shape {w : World} {v : Value} {l : List ByteArray} {lo hi : Nat} (h : StrsIn w v l lo hi) : ∃ p c, v = .slice p l.length c := by
  rcases h with ⟨rfl, a, c, rfl⟩ | ⟨b, off, c, rfl, _⟩
  · exact ⟨a, c, rfl⟩
  · exact ⟨_, c, rfl⟩
theorem takeR_lay (a r : List UInt8) (n : Nat) (h : a.length = n) : takeR n (a ++ r) 0 = (a, r, 0) := by
  subst h
  unfold takeR
  rw [if_neg (by simp), if_neg (by omega), if_neg (by simp; omega)]
  simp
theorem numR_lay (n k : Nat) (r : List UInt8) : numR k (numL n k ++ r) 0 = (n % 256 ^ k, r, 0) := by
  unfold numR
  rw [takeR_lay _ _ _ (numL_len n k), leL_numL]
theorem lenR_lay (m n : Nat) (r : List UInt8) (hm : m ≤ 65536) (h : n ≤ m) : lenR m (numL n 4 ++ r) 0 = (n, r, 0) := by
  unfold lenR
  rw [numR_lay, Nat.mod_eq_of_lt (by omega)]
  simp only
  rw [if_neg (by omega)]
theorem textR_lay (a r : List UInt8) (h : a.length ≤ 65536) : textR (textL a ++ r) 0 = (a, r, 0) := by
  unfold textR textL
  rw [List.append_assoc, lenR_lay _ _ _ (by omega) h]
  exact takeR_lay a r _ rfl

/-- the reference's reader stands at b: what is left, and the first error. -/
def RrAt (w : World) (b : Nat) (l : List UInt8) (x : Int) : Prop := ∃ (S : List UInt8) (at_ : Nat), Own w b #[.string (bs S), .int .i64 at_, .int .i64 x] 93 ∧ at_ ≤ S.length ∧ S.length ≤ 1000000 ∧ l = S.drop at_ ∧ (x ≠ 0 → l = [])
theorem RrAt.lt {w : World} {b : Nat} {l : List UInt8} {x : Int} (h : RrAt w b l x) : b < w.heap.size := by
  obtain ⟨S, a, h, _⟩ := h; exact h.lt
theorem RrAt.kept {S : List Nat} {w w' : World} {b : Nat} {l : List UInt8} {x : Int} (h : RrAt w b l x) (k : Kept S w w') (hb : b ∉ S) : RrAt w' b l x := by
  obtain ⟨T, a, h1, h2⟩ := h; exact ⟨T, a, k.own h1 hb, h2⟩
theorem RrAt.err {w : World} {b : Nat} {l : List UInt8} {x : Int} (h : RrAt w b l x) : w.cell? ⟨b, 2, none⟩ = some (.int .i64 x) := by
  obtain ⟨T, a, h1, h2⟩ := h; exact h1.cell 2 (by simp)

set_option maxRecDepth 100000 in
theorem rrFail (b : Nat) (l : List UInt8) (x e : Int) (w : World) (hR : RrAt w b l x) (he : e ≠ 0) :
    Calls Tryz.prog 95 #[.pointer (some ⟨b, 0, none⟩), .int .i64 e] w fun r w' => r = .returned (.tuple #[]) ∧ RrAt w' b [] (keepErr e x) ∧ Kept [b] w w' := by
  obtain ⟨S, a, hO, h1, h2, h3, h4⟩ := hR
  have c0 : w.cell? ⟨b, 0, none⟩ = some (.string (bs S)) := Own.cell hO 0 (by simp)
  have c1 : w.cell? ⟨b, 1, none⟩ = some (.int .i64 a) := Own.cell hO 1 (by simp)
  have c2 : w.cell? ⟨b, 2, none⟩ = some (.int .i64 x) := Own.cell hO 2 (by simp)
  have z0 := Own.free hO 0
  have z1 := Own.free hO 1
  have z2 := Own.free hO 2
  by_cases hx : x = 0
  · subst hx
    rw [keepErr_zero]
    have hd : ((0 : Int) == 0) = true := rfl
    go_enter Tryz.func95, Tryz.ntmps95
    go_wp2_with fail
    go_end0
    refine ⟨rfl, ⟨S, S.length, ?_, Nat.le_refl _, h2, by simp, fun _ => rfl⟩, ((Kept.refl _ _).setCell (Or.inl (by simp)) _).setCell (Or.inl (by simp)) _⟩
    have h5 := (Own.set hO 2 (.int .i64 e)).set 1 (.int .i64 (bs S).size)
    rw [bs_size] at h5 ⊢
    simpa using h5
  · have hd : (x == 0) = false := by simpa using hx
    rw [keepErr_ne hx]
    have hl := h4 hx
    subst h3
    go_enter Tryz.func95, Tryz.ntmps95
    go_wp2_with fail
    go_end0
    exact ⟨rfl, ⟨S, a, hO, h1, h2, hl.symm, fun _ => rfl⟩, Kept.refl _ _⟩

set_option maxRecDepth 100000 in
theorem rrTake (b : Nat) (l : List UInt8) (x n : Int) (w : World) (hR : RrAt w b l x) :
    Calls Tryz.prog 58 #[.pointer (some ⟨b, 0, none⟩), .int .i64 n] w fun r w' => r = .returned (.string (bs (takeR n l x).1)) ∧ RrAt w' b (takeR n l x).2.1 (takeR n l x).2.2 ∧ Kept [b] w w' := by
  have hf := fun e w1 (h : RrAt w1 b l x) (he : e ≠ 0) => rrFail b l x e w1 h he
  have hR0 := hR
  obtain ⟨S, a, hO, h1, h2, h3, h4⟩ := hR
  have c0 : w.cell? ⟨b, 0, none⟩ = some (.string (bs S)) := Own.cell hO 0 (by simp)
  have c1 : w.cell? ⟨b, 1, none⟩ = some (.int .i64 a) := Own.cell hO 1 (by simp)
  have c2 : w.cell? ⟨b, 2, none⟩ = some (.int .i64 x) := Own.cell hO 2 (by simp)
  have z1 := Own.free hO 1
  by_cases hx : x = 0
  · subst hx
    simp only [keepErr_zero] at hf
    have hd : ((0 : Int) == 0) = true := rfl
    by_cases hn : n < 0
    · have ht : takeR n l 0 = ([], [], 1) := by simp [takeR, hn]
      rw [ht]
      clear ht
      go_enter Tryz.func58, Tryz.ntmps58
      go_wp2_with fail
      refine (hf 1 _ hR0 (by decide)).mono ?_; rintro e w1 ⟨rfl, hR1, hk⟩
      go_wp2_with fail
      go_ret
      exact ⟨rfl, hR1, hk⟩
    · have hn0 : 0 ≤ n := by omega
      have hsz : ((bs S).size : Int) = S.length := by rw [bs_size]
      have hll : l.length = S.length - a := by rw [h3]; simp
      have e1 : IntKind.i64.wrap (((bs S).size : Int) - (a : Int)) = (l.length : Int) := by rw [IntWalk.i64_in _ (by omega)]; omega
      have e1' : ((bs S).size : Int) - (a : Int) = (l.length : Int) := by omega
      have hbl : (l.length : Int) ≤ 1000000 := by omega
      by_cases hl : (l.length : Int) < n
      · have ht : takeR n l 0 = ([], [], 10) := by simp [takeR, hn, hl]
        rw [ht]
        clear ht
        go_enter Tryz.func58, Tryz.ntmps58
        go_wp2_with fail
        go_quiet (fail)
        go_wp2_with fail
        refine (hf 10 _ ⟨S, a, hO.drewN _, h1, h2, h3, h4⟩ (by decide)).mono ?_; rintro e w1 ⟨rfl, hR1, hk⟩
        go_wp2_with fail
        go_ret
        exact ⟨rfl, hR1, ((Kept.refl _ _).drewN _).trans hk⟩
      · have ht : takeR n l 0 = (l.take n.toNat, l.drop n.toNat, 0) := by simp [takeR, hn, hl]
        rw [ht]
        obtain ⟨k, rfl⟩ := Int.eq_ofNat_of_zero_le hn0
        have e2 : IntKind.i64.wrap ((a : Int) + (k : Int)) = ((a + k : Nat) : Int) := by rw [IntWalk.i64_in _ (by omega)]; omega
        have e3 : (bs S).extract a (a + k) = bs (l.take k) := by rw [bs_extract, h3]; simp
        have hk2 : a + k ≤ (bs S).size := by omega
        clear ht hf
        go_enter Tryz.func58, Tryz.ntmps58
        go_wp2_with fail
        go_quiet (fail)
        go_wp2_with fail
        go_quiet (fail)
        go_wp2_with fail
        go_ret
        refine ⟨?_, ⟨S, a + k, ?_, by omega, h2, by rw [h3]; simp, fun h => absurd rfl h⟩, ((Kept.refl _ _).drewN _).setCell (Or.inl (by simp)) _⟩
        · show Ending.returned (Value.string ((bs S).extract a (a + k))) = _
          rw [e3]; rfl
        · have h5 := fun n => (Own.drewN hO n).set 1 (.int .i64 ((a : Int) + k))
          simpa using h5 _
  · have ht : takeR n l x = ([], l, x) := by simp [takeR, hx]
    rw [ht]
    have hd : (x == 0) = false := by simpa using hx
    have hd2 : (x != 0) = true := by simpa using hx
    clear ht
    go_enter Tryz.func58, Tryz.ntmps58
    go_wp2_with fail
    go_ret
    exact ⟨rfl, hR0, Kept.refl _ _⟩

theorem le_step (t : List UInt8) (j : Nat) (hj : j < t.length) (hl : t.length ≤ 8) (hb : j < (bs t).size) :
    leL (t.drop (j + 1)) < 256 ^ 7 ∧ (leL (t.drop (j + 1)) : Int) * 256 + ((bs t)[j].toNat : Int) = (leL (t.drop j) : Int) := by
  have h1 : t.drop j = t[j] :: t.drop (j + 1) := List.drop_eq_getElem_cons hj
  have h2 := leL_lt (t.drop (j + 1))
  have h3 : (256 : Nat) ^ (t.drop (j + 1)).length ≤ 256 ^ 7 := Nat.pow_le_pow_right (by decide) (by simp; omega)
  refine ⟨by omega, ?_⟩
  rw [h1, leL]
  have hg : (bs t)[j] = t[j] := rfl
  rw [hg]; omega

set_option maxRecDepth 100000 in
theorem rrNum (b k : Nat) (l : List UInt8) (x : Int) (w : World) (hR : RrAt w b l x) (hk : k ≤ 8) :
    Calls Tryz.prog 59 #[.pointer (some ⟨b, 0, none⟩), .int .i64 k] w fun r w' => r = .returned (.int .u64 (numR k l x).1) ∧ RrAt w' b (numR k l x).2.1 (numR k l x).2.2 ∧ Kept [b] w w' := by
  have ht := rrTake b l x k w hR
  have htl := takeR_len k l x
  unfold numR
  generalize takeR (k : Int) l x = t at *
  have hlen : t.1.length ≤ 8 := by omega
  have hsz : ((bs t.1).size : Int) = t.1.length := by rw [bs_size]
  have hsz2 : (bs t.1).size = t.1.length := by rw [bs_size]
  go_enter Tryz.func59, Tryz.ntmps59
  go_wp2_with fail
  refine ht.mono ?_; rintro e w1 ⟨rfl, hR1, hk1⟩
  go_wp2_with fail
  go_loop [6, 7] (fun v i => ∃ j : Nat, j ≤ t.1.length ∧ i = .int .i64 ((j : Int) - 1) ∧ v = .int .u64 (leL (t.1.drop j))) (fun _ i => (intOf i + 1).toNat)
  case atStart => exact ⟨t.1.length, Nat.le_refl _, by go_num, by simp [leL]⟩
  case round =>
    obtain ⟨j, hj, rfl, rfl⟩ := hrel
    by_cases hlt : 0 < j
    · obtain ⟨i, rfl⟩ : ∃ i, j = i + 1 := ⟨j - 1, by omega⟩
      have hib : i < (bs t.1).size := by omega
      obtain ⟨g1, g2⟩ := le_step t.1 i (by omega) hlen hib
      have hstep := Lib.hid g2
      have g3 : (bs t.1)[i].toNat < 256 := (bs t.1)[i].toNat_lt
      clear g2
      go_wp2_with fail
      go_round
      case rel => exact ⟨i, by omega, by go_num, by rw [← hstep.out]⟩
      case measure => simp [intOf]
    · have hfin : Hid (t.1.drop j = t.1) := by
        show t.1.drop j = t.1
        rw [show j = 0 from by omega]; rfl
      go_wp2_with fail
      go_ret
      exact ⟨by show Ending.returned (Value.int .u64 (leL (t.1.drop j))) = _; rw [hfin.out], hR1, hk1⟩

set_option maxRecDepth 100000 in
theorem rrText (b : Nat) (l : List UInt8) (x : Int) (w : World) (hR : RrAt w b l x) :
    Calls Tryz.prog 144 #[.pointer (some ⟨b, 0, none⟩)] w fun r w' => r = .returned (.string (bs (textR l x).1)) ∧ RrAt w' b (textR l x).2.1 (textR l x).2.2 ∧ Kept [b] w w' := by
  have hn : Calls Tryz.prog 59 #[.pointer (some ⟨b, 0, none⟩), .int .i64 4] w fun r w' => r = .returned (.int .u64 (numR 4 l x).1) ∧ RrAt w' b (numR 4 l x).2.1 (numR 4 l x).2.2 ∧ Kept [b] w w' := rrNum b 4 l x w hR (by omega)
  have hb := numR_lt 4 l x
  have hb2 : ((numR 4 l x).1 : Int) < 4294967296 := by omega
  unfold textR lenR
  simp only
  generalize numR 4 l x = u at *
  clear hb
  by_cases hlt : 65536 < u.1
  · rw [if_pos hlt]
    have hk0 : keepErr 2 u.2.2 ≠ 0 := keepErr_any (by decide)
    have e1 : takeR (0 : Nat) [] (keepErr 2 u.2.2) = ([], [], keepErr 2 u.2.2) := if_pos hk0
    simp only [e1]
    have ht := fun w1 (h : RrAt w1 b [] (keepErr 2 u.2.2)) => rrTake b [] (keepErr 2 u.2.2) u.1 w1 h
    have e2 : takeR (u.1 : Int) [] (keepErr 2 u.2.2) = ([], [], keepErr 2 u.2.2) := if_pos hk0
    rw [e2] at ht
    have hf := fun w1 (h : RrAt w1 b u.2.1 u.2.2) => rrFail b u.2.1 u.2.2 2 w1 h (by decide)
    generalize keepErr 2 u.2.2 = ke at *
    have hlt' : (65536 : Int) < u.1 := by omega
    clear e1 e2 hlt
    go_enter Tryz.func144, Tryz.ntmps144
    go_wp2_with fail
    refine hn.mono ?_; rintro e w1 ⟨rfl, hR1, hk1⟩
    go_wp2_with fail
    refine (hf _ hR1).mono ?_; rintro e w2 ⟨rfl, hR2, hk2⟩
    go_wp2_with fail
    refine (ht _ hR2).mono ?_; rintro e w3 ⟨rfl, hR3, hk3⟩
    go_wp2_with fail
    go_ret
    exact ⟨rfl, hR3, (hk1.trans hk2).trans hk3⟩
  · rw [if_neg hlt]
    have ht := fun w1 (h : RrAt w1 b u.2.1 u.2.2) => rrTake b u.2.1 u.2.2 u.1 w1 h
    generalize takeR (u.1 : Int) u.2.1 u.2.2 = t at *
    have hlt' : (u.1 : Int) ≤ 65536 := by omega
    have hun : (0 : Int) ≤ u.1 := by omega
    clear hlt
    generalize (u.1 : Int) = n at *
    go_enter Tryz.func144, Tryz.ntmps144
    go_wp2_with fail
    refine hn.mono ?_; rintro e w1 ⟨rfl, hR1, hk1⟩
    go_wp2_with fail
    refine (ht _ hR1).mono ?_; rintro e w3 ⟨rfl, hR3, hk3⟩
    go_wp2_with fail
    go_ret
    exact ⟨rfl, hR3, hk1.trans hk3⟩

set_option maxRecDepth 100000 in
theorem rrLeft (b : Nat) (l : List UInt8) (x : Int) (w : World) (hR : RrAt w b l x) :
    Calls Tryz.prog 96 #[.pointer (some ⟨b, 0, none⟩)] w fun r w' => r = .returned (.int .i64 l.length) ∧ ∃ n, w' = w.drewN n := by
  obtain ⟨S, a, hO, h1, h2, h3, h4⟩ := hR
  have c0 : w.cell? ⟨b, 0, none⟩ = some (.string (bs S)) := Own.cell hO 0 (by simp)
  have c1 : w.cell? ⟨b, 1, none⟩ = some (.int .i64 a) := Own.cell hO 1 (by simp)
  have hsz : ((bs S).size : Int) = S.length := by rw [bs_size]
  have hll : l.length = S.length - a := by rw [h3]; simp
  have e1 : IntKind.i64.wrap (((bs S).size : Int) - (a : Int)) = (l.length : Int) := by rw [IntWalk.i64_in _ (by omega)]; omega
  have hfin : Hid ((S.length : Int) - (a : Int) = (l.length : Int)) := by show (S.length : Int) - (a : Int) = (l.length : Int); omega
  clear h3 h4
  go_enter Tryz.func96, Tryz.ntmps96
  go_wp2_with fail
  go_quiet (fail)
  go_wp2_with fail
  go_ret
  exact ⟨by show Ending.returned (Value.int .i64 ((S.length : Int) - a)) = _; rw [hfin.out], _, rfl⟩

set_option maxRecDepth 100000 in
theorem rrEnd (b : Nat) (l : List UInt8) (x : Int) (w : World) (hR : RrAt w b l x) :
    Calls Tryz.prog 121 #[.pointer (some ⟨b, 0, none⟩)] w fun r w' => r = .returned (.int .i64 (endR l x)) ∧ ∃ n, w' = w.drewN n := by
  obtain ⟨S, a, hO, h1, h2, h3, h4⟩ := hR
  have c0 : w.cell? ⟨b, 0, none⟩ = some (.string (bs S)) := Own.cell hO 0 (by simp)
  have c1 : w.cell? ⟨b, 1, none⟩ = some (.int .i64 a) := Own.cell hO 1 (by simp)
  have c2 : w.cell? ⟨b, 2, none⟩ = some (.int .i64 x) := Own.cell hO 2 (by simp)
  have hsz : ((bs S).size : Int) = S.length := by rw [bs_size]
  have hll : l.length = S.length - a := by rw [h3]; simp
  by_cases hx : x = 0
  · subst hx
    have hd : decide ((0 : Int) = 0) = true := rfl
    have hd2 : ((0 : Int) == 0) = true := rfl
    by_cases hl : l = []
    · have he : endR l 0 = 0 := by simp [endR, hl]
      have hlt : ¬ ((a : Int) < ((bs S).size : Int)) := by rw [hl] at hll; simp at hll; omega
      have hlb : decide ((a : Int) < ((bs S).size : Int)) = false := decide_eq_false hlt
      rw [he]
      clear h3 h4 hll hl
      go_enter Tryz.func121, Tryz.ntmps121
      go_wp2_with fail
      go_quiet (fail)
      go_wp2_with fail
      go_ret
      exact ⟨rfl, _, rfl⟩
    · have he : endR l 0 = 7 := by simp [endR, hl]
      have hlt : ((a : Int) < ((bs S).size : Int)) := by have : 0 < l.length := List.length_pos_iff.2 hl; omega
      have hlb : decide ((a : Int) < ((bs S).size : Int)) = true := decide_eq_true hlt
      rw [he]
      clear h3 h4 hll hl
      go_enter Tryz.func121, Tryz.ntmps121
      go_wp2_with fail
      go_quiet (fail)
      go_wp2_with fail
      go_ret
      exact ⟨rfl, _, rfl⟩
  · have he : endR l x = x := by simp [endR, hx]
    have hd : (x == 0) = false := by simpa using hx
    have hd2 : decide (x = 0) = false := by simpa using hx
    rw [he]
    clear h3 h4 hll
    go_enter Tryz.func121, Tryz.ntmps121
    go_wp2_with fail
    go_quiet (fail)
    go_wp2_with fail
    go_ret
    exact ⟨rfl, _, rfl⟩
def jrunsL (l : List (Int × Int)) : List UInt8 := (l.map fun r => numL r.1.toNat 2 ++ numL r.2.toNat 2).flatten
theorem jrunsL_take (l : List (Int × Int)) (k : Nat) (h : k < l.length) : jrunsL (l.take (k + 1)) = jrunsL (l.take k) ++ (numL l[k].1.toNat 2 ++ numL l[k].2.toNat 2) := by
  unfold jrunsL; rw [List.take_succ_eq_append_getElem h, List.map_append, List.flatten_append]
  congr 1
theorem jrunsL_len (l : List (Int × Int)) : (jrunsL l).length = 4 * l.length := by
  induction l with
  | nil => rfl
  | cons a l ih => simp only [jrunsL, List.map_cons, List.flatten_cons, List.length_append, numL_len, List.length_cons] at *; omega
/-- runs' bytes. -/
def qrunsL (l : List (Int × Int)) : List UInt8 := numL l.length 2 ++ jrunsL l
/-- a record's bytes. -/
def recL (r : JRec) : List UInt8 := numL r.kind.toNat 1 ++ ((if kId r.kind then numL r.id.toNat 4 else []) ++ ((if kName r.kind then textL r.name else []) ++ (if kBlob r.kind then numL r.size.toNat 4 ++ qrunsL r.runs else [])))
theorem ju64_nat (n : Nat) (h : n < 18446744073709551616) : IntKind.u64.wrap (n : Int) = n := by
  have : IntKind.u64.wrap (n : Int) = (n : Int) % 18446744073709551616 := by simp [IntKind.wrap, IntKind.bits, IntKind.signed]
  rw [this]; omega
theorem ju32_nat (n : Nat) (h : n < 4294967296) : IntKind.u32.wrap (n : Int) = n := by
  have : IntKind.u32.wrap (n : Int) = (n : Int) % 4294967296 := by simp [IntKind.wrap, IntKind.bits, IntKind.signed]
  rw [this]; omega
theorem ju16_nat (n : Nat) (h : n < 65536) : IntKind.u16.wrap (n : Int) = n := by
  have : IntKind.u16.wrap (n : Int) = (n : Int) % 65536 := by simp [IntKind.wrap, IntKind.bits, IntKind.signed]
  rw [this]; omega
theorem jNum1 (n : Nat) (w : World) (hn : n < 18446744073709551616) :
    Calls Tryz.prog 54 #[.int .u64 n, .int .i64 1] w fun e w' => e = .returned (.string (bs (numL n 1))) ∧ Kept [] w w' := rNum 1 n w hn (by omega)
theorem jNum2 (n : Nat) (w : World) (hn : n < 18446744073709551616) :
    Calls Tryz.prog 54 #[.int .u64 n, .int .i64 2] w fun e w' => e = .returned (.string (bs (numL n 2))) ∧ Kept [] w w' := rNum 2 n w hn (by omega)
theorem jNum4 (n : Nat) (w : World) (hn : n < 18446744073709551616) :
    Calls Tryz.prog 54 #[.int .u64 n, .int .i64 4] w fun e w' => e = .returned (.string (bs (numL n 4))) ∧ Kept [] w w' := rNum 4 n w hn (by omega)
def RunsFit (l : List (Int × Int)) : Prop := l.length ≤ 16 ∧ ∀ k (hk : k < l.length), 0 ≤ l[k].1 ∧ l[k].1 < 65536 ∧ 0 ≤ l[k].2 ∧ l[k].2 < 65536
structure RecOk (r : JRec) : Prop where
  k1 : 1 ≤ r.kind
  k6 : r.kind ≤ 6
  i0 : 0 ≤ r.id
  i1 : r.id ≤ 4294967294
  nm : r.name.length ≤ 48
  s0 : 0 ≤ r.size
  s1 : r.size ≤ 1048576
  rf : RunsFit r.runs
theorem plB_fit {l : List (Int × Int)} {n : Int} (h : plB l n = true) : 0 ≤ n ∧ n ≤ 1048576 ∧ RunsFit l := by
  unfold plB at h
  simp only [Bool.and_eq_true, decide_eq_true_eq] at h
  obtain ⟨h1, h2, h3, h4, _⟩ := h
  refine ⟨h2, h3, h1, fun k hk => ?_⟩
  have := okRun_iff.1 (lieTo_ok (Nat.le_refl _) h4 k hk)
  omega
theorem rec_ok {r : JRec} (h : mayR r = true) (hf : r.fits) : RecOk r := by
  unfold mayR mayG at h
  simp only [Bool.and_eq_true, decide_eq_true_eq] at h
  obtain ⟨h1, h2, h3, h4, h5, h6, h7⟩ := h
  obtain ⟨p1, p2, p3⟩ := plB_fit h7
  obtain ⟨i0, _⟩ := bd32 hf.2.1
  have hk : 1 ≤ r.kind ∧ r.kind ≤ 6 := by
    unfold kId kName at h1
    simp only [Bool.or_eq_true, beq_iff_eq] at h1
    omega
  exact ⟨hk.1, hk.2, i0, h3, h5, p1, p2, p3⟩
set_option maxRecDepth 100000 in
set_option maxHeartbeats 2000000 in
theorem qruns (v : Value) (l : List (Int × Int)) (lo hi : Nat) (w : World) (h : RunsIn w v l lo hi) (hl : RunsFit l) :
    Calls Tryz.prog 119 #[v] w fun e w' => e = .returned (.string (bs (qrunsL l))) ∧ Kept [] w w' := by
  obtain ⟨hl, hlo⟩ := hl
  obtain ⟨p, c, rfl⟩ := h.shape
  have w5 := ju64_nat l.length (by omega)
  have h5 := fun W => jNum2 l.length W (by omega)
  have H5 := Lib.hid h5
  have H := Lib.hid h
  have HLO := Lib.hid hlo
  have hl' : (l.length : Int) ≤ 16 := by omega
  clear h5 h hlo
  go_enter Tryz.func119, Tryz.ntmps119
  go_wp2_with fail
  refine (H5.out _).mono ?_; rintro e w1 ⟨rfl, hk1⟩
  clear w5
  go_wp2_with fail
  go_loopw [3, 4] (fun t i wr => ∃ k : Nat, k ≤ l.length ∧ i = .int .i64 k ∧ t = .string (bs (numL l.length 2 ++ jrunsL (l.take k))) ∧ Kept [] w wr) (fun _ i _ => l.length - (intOf i).toNat)
  case atStart => exact ⟨0, by omega, rfl, by simp [jrunsL], hk1⟩
  case round =>
    obtain ⟨k, hk, rfl, rfl, hK⟩ := hrel
    by_cases hlt : k < l.length
    · obtain ⟨b', off, rfl, c0, c1, hb', hlc, hcm⟩ := (H.out.kept0 hK).at_ k hlt
      have hbd := HLO.out k hlt
      have hrt := jrunsL_take l k hlt
      obtain ⟨n1, hn1⟩ := Int.eq_ofNat_of_zero_le hbd.1
      obtain ⟨n2, hn2⟩ := Int.eq_ofNat_of_zero_le hbd.2.2.1
      rw [hn1] at c0 hrt hbd
      rw [hn2] at c1 hrt hbd
      rw [Int.toNat_natCast, Int.toNat_natCast] at hrt
      have hstr : Hid (bs (numL l.length 2 ++ jrunsL (l.take k)) ++ bs (numL n1 2) ++ bs (numL n2 2) = bs (numL l.length 2 ++ jrunsL (l.take (k + 1)))) := by
        show _ = _; rw [bs_append, bs_append, hrt]; simp only [List.append_assoc]
      have e1 := ju64_nat n1 (by omega)
      have e2 := ju64_nat n2 (by omega)
      have y1 : (bs (numL n1 2)).size = 2 := by rw [bs_size, numL_len]
      have y2 : (bs (numL n2 2)).size = 2 := by rw [bs_size, numL_len]
      have y0 : (bs (numL l.length 2 ++ jrunsL (l.take k))).size ≤ 1000 := by rw [bs_size, List.length_append, numL_len, jrunsL_len, List.length_take]; omega
      have hh := fun (n : Nat) W (hn : n < 18446744073709551616) (hkx : Kept [] wr W) => (jNum2 n W hn).mono fun e w' hh => (show e = .returned (.string (bs (numL n 2))) ∧ Kept [] wr w' ∧ (w'.cell? ⟨b', off + k * 2, none⟩ = some (.int .i64 (n1 : Int)) ∧ w'.cell? ⟨b', off + k * 2 + 1, none⟩ = some (.int .i64 (n2 : Int))) from ⟨hh.1, hkx.trans hh.2, by
        have hkx2 := hkx.trans hh.2
        refine ⟨?_, ?_⟩
        · rw [hkx2.cell hb' (by simp)]; exact c0
        · rw [hkx2.cell hb' (by simp)]; exact c1⟩)
      have g1 := fun W hk => hh n1 W (by omega) hk
      have g2 := fun W hk => hh n2 W (by omega) hk
      have G1 := Lib.hid g1
      have G2 := Lib.hid g2
      have i1 : (k : Int) < l.length := by omega
      have HLT := Lib.hid hlt
      clear hrt hn1 hn2 hh g1 g2
      generalize bs (numL l.length 2 ++ jrunsL (l.take k)) = T0 at *
      generalize hT1 : bs (numL l.length 2 ++ jrunsL (l.take (k + 1))) = T1 at *
      have HT1 := Lib.hid hT1
      clear hT1
      generalize bs (numL n1 2) = M1 at *
      generalize bs (numL n2 2) = M2 at *
      have yy : (T0 ++ M1).size = T0.size + M1.size := ByteArray.size_append
      have qc1 : ∀ W, (Op.stringOp .add T0 M1).run Tryz.prog W = .ok (.string (T0 ++ M1)) W := fun W => by first | (simp [Op.stringOp]; omega)
      have qc2 : ∀ W, (Op.stringOp .add (T0 ++ M1) M2).run Tryz.prog W = .ok (.string (T0 ++ M1 ++ M2)) W := fun W => by first | (simp [Op.stringOp]; omega)
      clear yy
      go_wp2_with fail
      go_region_held3 (fun w' => w'.cell? ⟨b', off + k * 2, none⟩ = some (.int .i64 (n1 : Int)) ∧ w'.cell? ⟨b', off + k * 2 + 1, none⟩ = some (.int .i64 (n2 : Int))) (go_keep)
        (first
          | (go_at_call 54; ((with_reducible refine (G1.out _ ?_).mono ?_)); (first | exact Kept.refl _ _ | exact (Kept.refl _ _).drew | exact (Kept.refl _ _).drewN _); rintro e w1 ⟨rfl, kk1, q0, q1⟩)
          | (go_at_call 54; ((with_reducible refine (G2.out _ ?_).mono ?_)); (first | exact kk1 | exact kk1.drew | exact kk1.drewN _); rintro e w1 ⟨rfl, kk2, q0, q1⟩))
      all_goals go_wp2_with fail
      all_goals go_roundw
      all_goals first
        | exact ⟨k + 1, HLT.out, by go_num, by rw [HT1.out, ← hstr.out], hK.trans (by first | exact kk2 | exact kk2.drew)⟩
        | (have hh := HLT.out; simp [intOf]; omega)
    · obtain rfl : k = l.length := by omega
      rw [List.take_length]
      go_wp2_with fail
      go_ret
      exact ⟨rfl, hK⟩
end Go.Proofs.YtakdnchmehmdhaaGreat
