/- Layer 13 (journal): which two records are the same: both sides. -/
import Derived.Test.YtegbekeopgponaaG02
import Derived.Test.YtegbekeopgponaaG04
import Derived.Test.YtegbekeopgponaaG12
namespace Go.Proofs.Ytegbekeopgponaa
open Go.RowKit
set_option linter.unusedVariables false
set_option linter.unusedSimpArgs false

def JRec.same (a b : JRec) : Bool := a.kind == b.kind && (a.id == b.id && (a.name == b.name && (a.size == b.size && a.runs == b.runs)))
theorem JRec.four (a b : JRec) : ((a.kind == b.kind) = false ∧ a.same b = false) ∨ ((a.kind == b.kind) = true ∧ (a.id == b.id) = false ∧ a.same b = false) ∨ ((a.kind == b.kind) = true ∧ (a.id == b.id) = true ∧ (a.name == b.name) = false ∧ a.same b = false) ∨ ((a.kind == b.kind) = true ∧ (a.id == b.id) = true ∧ (a.name == b.name) = true ∧ (a.size == b.size) = false ∧ a.same b = false) ∨ ((a.kind == b.kind) = true ∧ (a.id == b.id) = true ∧ (a.name == b.name) = true ∧ (a.size == b.size) = true ∧ a.same b = (a.runs == b.runs)) := by
  unfold JRec.same
  cases a.kind == b.kind <;> cases a.id == b.id <;> cases a.name == b.name <;> cases a.size == b.size <;> simp
theorem bs_forms (a b : List UInt8) {x : Bool} (h : (a == b) = x) : (bs a == bs b) = x ∧ ((bs a).toList == (bs b).toList) = x := by
  have h1 : (bs a == bs b) = x := by rw [bs_beq, h]
  exact ⟨h1, by rw [bs_toList, bs_toList, h]⟩
set_option maxRecDepth 100000 in
set_option maxHeartbeats 2000000 in
theorem jsame (a b : JRec) (va vb : Value) (lo hi lo' hi' : Nat) (w : World) (h : RunsIn w va a.runs lo hi) (h' : RunsIn w vb b.runs lo' hi') (hl : a.runs.length ≤ 1000000) (hm : b.runs.length ≤ 1000000) :
    Calls Try.prog 19 #[.agg (a.cells va), .agg (b.cells vb)] w fun e w' => e = .returned (.bool (a.same b)) ∧ Kept [] w w' := by
  have hc := JRec.four a b
  have hq := fun w' (hk : Kept [] w w') => pequal va vb a.runs b.runs lo hi lo' hi' w' (h.kept0 hk) (h'.kept0 hk) hl hm
  have HQ := Lib.hid hq
  obtain ⟨p, c, rfl⟩ := h.shape
  obtain ⟨p', c', rfl⟩ := h'.shape
  clear hq h h'
  obtain ⟨o1, o2⟩ := own_two w (a.cells (.slice p a.runs.length c)) (b.cells (.slice p' b.runs.length c')) 50 50
  unfold JRec.cells at *
  have kk : Kept [] w ((w.alloc (.cells #[.int .i64 a.kind, .int .u32 a.id, .string (bs a.name), .int .i64 a.size, .slice p a.runs.length c] 50)).alloc (.cells #[.int .i64 b.kind, .int .u32 b.id, .string (bs b.name), .int .i64 b.size, .slice p' b.runs.length c'] 50)) := ((Kept.refl _ _).alloc _).alloc _
  rcases hc with ⟨e1, hx⟩ | ⟨e1, e2, hx⟩ | ⟨e1, e2, e3, hx⟩ | ⟨e1, e2, e3, e4, hx⟩ | ⟨e1, e2, e3, e4, hx⟩
  iterate 2
    · have HX := Lib.hid hx
      clear hx HQ
      go_enter Try.func19, Try.ntmps19
      go_wp2_with fail
      go_ret
      exact ⟨by rw [HX.out]; rfl, kk⟩
  iterate 2
    · obtain ⟨e31, e32⟩ := bs_forms _ _ e3
      have HX := Lib.hid hx
      clear hx HQ e3
      go_enter Try.func19, Try.ntmps19
      go_wp2_with fail
      go_ret
      exact ⟨by rw [HX.out]; rfl, kk⟩
  · obtain ⟨e31, e32⟩ := bs_forms _ _ e3
    have HX := Lib.hid hx
    clear hx e3
    generalize (a.runs == b.runs) = R at *
    go_enter Try.func19, Try.ntmps19
    go_wp2_with fail
    refine (HQ.out _ kk).mono ?_; rintro e w1 ⟨rfl, hk⟩
    go_wp2_with fail
    go_ret
    exact ⟨by rw [HX.out]; rfl, kk.trans hk⟩
set_option maxRecDepth 100000 in
set_option maxHeartbeats 2000000 in
theorem qsame (a b : JRec) (va vb : Value) (lo hi lo' hi' : Nat) (w : World) (h : RunsIn w va a.runs lo hi) (h' : RunsIn w vb b.runs lo' hi') (hl : a.runs.length ≤ 1000000) (hm : b.runs.length ≤ 1000000) :
    Calls Try.prog 20 #[.agg (a.cells va), .agg (b.cells vb)] w fun e w' => e = .returned (.bool (a.same b)) ∧ Kept [] w w' := by
  have hc := JRec.four a b
  have hq := fun w' (hk : Kept [] w w') => rsameruns va vb a.runs b.runs lo hi lo' hi' w' (h.kept0 hk) (h'.kept0 hk) hl hm
  have HQ := Lib.hid hq
  obtain ⟨p, c, rfl⟩ := h.shape
  obtain ⟨p', c', rfl⟩ := h'.shape
  clear hq h h'
  obtain ⟨o1, o2⟩ := own_two w (a.cells (.slice p a.runs.length c)) (b.cells (.slice p' b.runs.length c')) 50 50
  unfold JRec.cells at *
  have kk : Kept [] w ((w.alloc (.cells #[.int .i64 a.kind, .int .u32 a.id, .string (bs a.name), .int .i64 a.size, .slice p a.runs.length c] 50)).alloc (.cells #[.int .i64 b.kind, .int .u32 b.id, .string (bs b.name), .int .i64 b.size, .slice p' b.runs.length c'] 50)) := ((Kept.refl _ _).alloc _).alloc _
  rcases hc with ⟨e1, hx⟩ | ⟨e1, e2, hx⟩ | ⟨e1, e2, e3, hx⟩ | ⟨e1, e2, e3, e4, hx⟩ | ⟨e1, e2, e3, e4, hx⟩
  iterate 2
    · have HX := Lib.hid hx
      clear hx HQ
      go_enter Try.func20, Try.ntmps20
      go_wp2_with fail
      go_ret
      exact ⟨by rw [HX.out]; rfl, kk⟩
  iterate 2
    · obtain ⟨e31, e32⟩ := bs_forms _ _ e3
      have HX := Lib.hid hx
      clear hx HQ e3
      go_enter Try.func20, Try.ntmps20
      go_wp2_with fail
      go_ret
      exact ⟨by rw [HX.out]; rfl, kk⟩
  · obtain ⟨e31, e32⟩ := bs_forms _ _ e3
    have HX := Lib.hid hx
    clear hx e3
    generalize (a.runs == b.runs) = R at *
    go_enter Try.func20, Try.ntmps20
    go_wp2_with fail
    refine (HQ.out _ kk).mono ?_; rintro e w1 ⟨rfl, hk⟩
    go_wp2_with fail
    go_ret
    exact ⟨by rw [HX.out]; rfl, kk.trans hk⟩
end Go.Proofs.Ytegbekeopgponaa

/- Walks of layer 1 (pack): the reader. -/
namespace Go.Proofs.Ytegbekeopgponaa
open Go.RowKit
set_option linter.unusedVariables false
set_option linter.unusedSimpArgs false

/-- the next n bytes; and the reader behind it. -/
def takeR (n : Int) (l : List UInt8) (x : Int) : List UInt8 × List UInt8 × Int :=
  if x ≠ 0 then ([], l, x) else if n < 0 then ([], [], 1) else if (l.length : Int) < n then ([], [], 10) else (l.take n.toNat, l.drop n.toNat, 0)

theorem ret_str {a b : List UInt8} (h : a = b) : Ending.returned (.string (bs a)) = .returned (.string (bs b)) := by rw [h]

set_option maxRecDepth 100000 in
theorem packTake (b : Nat) (l : List UInt8) (x n : Int) (w : World) (hR : RdAt w b l x) :
    Calls Try.prog 41 #[.pointer (some ⟨b, 0, none⟩), .int .i64 n] w fun r w' => r = .returned (.string (bs (takeR n l x).1)) ∧ RdAt w' b (takeR n l x).2.1 (takeR n l x).2.2 ∧ Kept [b] w w' := by
  have c0 : w.cell? ⟨b, 0, none⟩ = some (.string (bs l)) := Own.cell hR 0 (by simp)
  have c1 : w.cell? ⟨b, 1, none⟩ = some (.int .i64 x) := Own.cell hR 1 (by simp)
  have z0 := Own.free hR 0
  have z1 := Own.free hR 1
  by_cases hx : x = 0
  · have hf := fun e => packFail b l x e w hR
    subst hx
    simp only [keepErr_zero] at hf
    by_cases hn : n < 0
    · have ht : takeR n l 0 = ([], [], 1) := by simp [takeR, hn]
      rw [ht]
      clear ht
      go_enter Try.func41, Try.ntmps41
      go_wp2_with fail
      refine (hf 1).mono ?_; rintro e w1 ⟨rfl, hR1, hk⟩
      go_wp2_with fail
      go_ret
      exact ⟨rfl, hR1, hk⟩
    · have hn0 : 0 ≤ n := by omega
      have hsz : ((bs l).size : Int) = l.length := by rw [bs_size]
      by_cases hl : (l.length : Int) < n
      · have ht : takeR n l 0 = ([], [], 10) := by simp [takeR, hn, hl]
        rw [ht]
        have hl' : ((bs l).size : Int) < n := by rw [hsz]; exact hl
        clear ht hsz
        go_enter Try.func41, Try.ntmps41
        go_wp2_with fail
        refine (hf 10).mono ?_; rintro e w1 ⟨rfl, hR1, hk⟩
        go_wp2_with fail
        go_ret
        exact ⟨rfl, hR1, hk⟩
      · have ht : takeR n l 0 = (l.take n.toNat, l.drop n.toNat, 0) := by simp [takeR, hn, hl]
        rw [ht]
        obtain ⟨k, rfl⟩ := Int.eq_ofNat_of_zero_le hn0
        have hl' : (k : Int) ≤ ((bs l).size : Int) := by rw [hsz]; omega
        have hl2 : k ≤ (bs l).size := by omega
        have e1 := Lib.hid (bs_extract l 0 k)
        have e2 := Lib.hid (bs_extract l k (bs l).size)
        clear ht hsz hf
        go_enter Try.func41, Try.ntmps41
        go_wp2_with fail
        go_ret
        have e1' : (bs l).extract 0 k = bs (l.take k) := by rw [e1.out]; simp
        have e2' : (bs l).extract k (bs l).size = bs (l.drop k) := by rw [e2.out, List.take_of_length_le (by rw [bs_size]; simp)]
        refine ⟨?_, ?_, (Kept.refl _ _).setCell (Or.inl (by simp)) _⟩
        · show Ending.returned (Value.string ((bs l).extract 0 k)) = _
          rw [e1']
        · have h2 := Own.set hR 0 (.string ((bs l).extract k (bs l).size))
          unfold RdAt
          rw [e2'] at h2 ⊢
          simpa using h2
  · have ht : takeR n l x = ([], l, x) := by simp [takeR, hx]
    rw [ht]
    have hd : (x == 0) = false := by simpa using hx
    have hd2 : (x != 0) = true := by simpa using hx
    clear ht
    go_enter Try.func41, Try.ntmps41
    go_wp2_with fail
    go_ret
    exact ⟨rfl, hR, Kept.refl _ _⟩

set_option maxRecDepth 100000 in
theorem packTake_nil (n : Int) (w : World) :
    Calls Try.prog 41 #[.pointer none, .int .i64 n] w fun r w' => r = .returned (.string { data := #[] }) ∧ w = w' := by
  go_enter Try.func41, Try.ntmps41
  go_wp2_with fail
  go_ret
  exact ⟨rfl, rfl⟩

/-- the number of bytes, the lowest first. -/
def leL : List UInt8 → Nat
  | [] => 0
  | c :: l => c.toNat + 256 * leL l
theorem leL_lt (l : List UInt8) : leL l < 256 ^ l.length := by
  induction l with
  | nil => simp [leL]
  | cons c l ih =>
    have := c.toNat_lt
    simp only [leL, List.length_cons, Nat.pow_succ]
    omega
theorem leL_snoc (l : List UInt8) (c : UInt8) : leL (l ++ [c]) = leL l + 256 ^ l.length * c.toNat := by
  induction l with
  | nil => simp [leL]
  | cons d l ih =>
    simp only [List.cons_append, leL, ih, List.length_cons, Nat.pow_succ]
    rw [Nat.mul_add, ← Nat.mul_assoc, Nat.mul_comm 256 (256 ^ l.length)]; omega
theorem leL_numL (n k : Nat) : leL (numL n k) = n % 256 ^ k := by
  induction k generalizing n with
  | zero => simp [numL, leL, Nat.mod_one]
  | succ k ih =>
    have e : (UInt8.ofNat n).toNat = n % 256 := by rw [UInt8.toNat_ofNat']
    simp only [numL, leL, ih]
    rw [e, Nat.pow_succ, Nat.mul_comm (256 ^ k) 256, Nat.mod_mul]
theorem numL_leL (l : List UInt8) : numL (leL l) l.length = l := by
  induction l with
  | nil => rfl
  | cons c l ih =>
    have hc := c.toNat_lt
    simp only [leL, List.length_cons, numL]
    have e1 : UInt8.ofNat (c.toNat + 256 * leL l) = c := by
      apply UInt8.toNat_inj.1
      rw [UInt8.toNat_ofNat']; omega
    have e2 : (c.toNat + 256 * leL l) / 256 = leL l := by omega
    rw [e1, e2, ih]

def numR (k : Nat) (l : List UInt8) (x : Int) : Nat × List UInt8 × Int := (leL (takeR k l x).1, (takeR k l x).2)
theorem takeR_len (n : Int) (l : List UInt8) (x : Int) : (takeR n l x).1.length ≤ n.toNat := by
  unfold takeR; split
  · simp
  · split
    · simp
    · split
      · simp
      · simp; omega

theorem or_step (t : List UInt8) (j : Nat) (hj : j < t.length) (hl : t.length ≤ 8) (hb : j < (bs t).size) :
    bits .or .u64 (leL (t.take j)) (IntKind.u64.wrap (IntKind.u64.wrap ((bs t)[j].toNat : Int) * 2 ^ (8 * j))) = (leL (t.take (j + 1)) : Int) := by
  have hc : (bs t)[j].toNat < 256 := by have := (bs t)[j].toNat_lt; omega
  have hlt := leL_lt (t.take j)
  have hlj : (t.take j).length = j := by simp; omega
  rw [hlj] at hlt
  have hp : (256 : Nat) ^ j = 2 ^ (8 * j) := by rw [Nat.pow_mul]
  have hpj : (2 : Nat) ^ (8 * j) ≤ 2 ^ 56 := Nat.pow_le_pow_right (by decide) (by omega)
  have hm : (bs t)[j].toNat * 2 ^ (8 * j) < 2 ^ 64 := by
    have := Nat.mul_le_mul (Nat.le_of_lt_succ hc) hpj
    omega
  have hts : t.take (j + 1) = t.take j ++ [t[j]] := by rw [List.take_succ_eq_append_getElem hj]; rfl
  have hg : (bs t)[j] = t[j] := rfl
  have w1 : IntKind.u64.wrap ((bs t)[j].toNat : Int) = ((bs t)[j].toNat : Int) := by simp [IntKind.wrap, IntKind.signed, IntKind.bits]; omega
  have w2 : IntKind.u64.wrap (((bs t)[j].toNat * 2 ^ (8 * j) : Nat) : Int) = (((bs t)[j].toNat * 2 ^ (8 * j) : Nat) : Int) := by
    have h : (((bs t)[j].toNat * 2 ^ (8 * j) : Nat) : Int) < 18446744073709551616 := by omega
    have h0 : (0 : Int) ≤ (((bs t)[j].toNat * 2 ^ (8 * j) : Nat) : Int) := by omega
    generalize (((bs t)[j].toNat * 2 ^ (8 * j) : Nat) : Int) = X at *
    simp [IntKind.wrap, IntKind.signed, IntKind.bits]; omega
  have e : ((bs t)[j].toNat : Int) * 2 ^ (8 * j) = (((bs t)[j].toNat * 2 ^ (8 * j) : Nat) : Int) := by simp
  rw [w1, e, w2, bits_or_u64_nat _ _ (by omega) (by omega)]
  congr 1
  rw [hts, leL_snoc, hlj, hp, Nat.or_comm, Nat.mul_comm (bs t)[j].toNat, ← Nat.two_pow_add_eq_or_of_lt (by omega), hg]
  omega

set_option maxRecDepth 100000 in
theorem packNumber (b k : Nat) (l : List UInt8) (x : Int) (w : World) (hR : RdAt w b l x) (hk : k ≤ 8) :
    Calls Try.prog 82 #[.pointer (some ⟨b, 0, none⟩), .int .i64 k] w fun r w' => r = .returned (.int .u64 (numR k l x).1) ∧ RdAt w' b (numR k l x).2.1 (numR k l x).2.2 ∧ Kept [b] w w' := by
  have ht := packTake b l x k w hR
  have htl := takeR_len k l x
  unfold numR
  generalize takeR (k : Int) l x = t at *
  have hlen : t.1.length ≤ 8 := by omega
  have hsz : ((bs t.1).size : Int) = t.1.length := by rw [bs_size]
  have hsz2 : (bs t.1).size = t.1.length := by rw [bs_size]
  go_enter Try.func82, Try.ntmps82
  go_wp2_with fail
  refine ht.mono ?_; rintro e w1 ⟨rfl, hR1, hk1⟩
  go_wp2_with fail
  go_loop [6, 13] (fun v i => ∃ j : Nat, j ≤ t.1.length ∧ i = .int .i64 j ∧ v = .int .u64 (leL (t.1.take j))) (fun _ i => t.1.length - (intOf i).toNat)
  case atStart => exact ⟨0, Nat.zero_le _, rfl, rfl⟩
  case round =>
    obtain ⟨j, hj, rfl, rfl⟩ := hrel
    by_cases hlt : j < t.1.length
    · have hstep := Lib.hid (or_step t.1 j hlt hlen (by rw [bs_size]; exact hlt))
      go_wp2_with fail
      go_round
      case rel => exact ⟨j + 1, by omega, by go_num, by rw [← hstep.out]⟩
      case measure => simp [intOf]; omega
    · have hfin := Lib.hid (show t.1.take j = t.1 from List.take_of_length_le (by omega))
      go_wp2_with fail
      go_ret
      exact ⟨by show Ending.returned (Value.int .u64 (leL (t.1.take j))) = _; rw [hfin.out], hR1, hk1⟩

theorem numR_lt (k : Nat) (l : List UInt8) (x : Int) : (numR k l x).1 < 256 ^ k := by
  have h1 := leL_lt (takeR k l x).1
  have h2 := takeR_len k l x
  have h3 : (256 : Nat) ^ (takeR k l x).1.length ≤ 256 ^ k := Nat.pow_le_pow_right (by decide) (by omega)
  show leL _ < _
  omega

set_option maxRecDepth 100000 in
theorem packNumber_nil (n : Int) (w : World) :
    Calls Try.prog 82 #[.pointer none, .int .i64 n] w fun r w' => r = .returned (.int .u64 0) ∧ w = w' := by
  go_enter Try.func82, Try.ntmps82
  go_wp2_with fail
  refine (packTake_nil _ _).mono ?_; rintro e w1 ⟨rfl, rfl⟩
  go_wp2_with fail
  go_loop [6, 13] (fun v i => i = .int .i64 0 ∧ v = .int .u64 0) (fun _ _ => 0)
  case atStart => exact ⟨rfl, rfl⟩
  case round =>
    obtain ⟨rfl, rfl⟩ := hrel
    go_wp2_with fail
    go_ret
    exact ⟨rfl, rfl⟩

set_option maxRecDepth 100000 in
theorem rdU8 (b : Nat) (l : List UInt8) (x : Int) (w : World) (hR : RdAt w b l x) :
    Calls Try.prog 108 #[.pointer (some ⟨b, 0, none⟩)] w fun r w' => r = .returned (.int .u8 (numR 1 l x).1) ∧ RdAt w' b (numR 1 l x).2.1 (numR 1 l x).2.2 ∧ Kept [b] w w' := by
  have hn : Calls Try.prog 82 #[.pointer (some ⟨b, 0, none⟩), .int .i64 1] w fun r w' => r = .returned (.int .u64 (numR 1 l x).1) ∧ RdAt w' b (numR 1 l x).2.1 (numR 1 l x).2.2 ∧ Kept [b] w w' := packNumber b 1 l x w hR (by omega)
  have hb := numR_lt 1 l x
  have hb' : ((numR 1 l x).1 : Int) < 256 := by omega
  clear hb
  generalize numR 1 l x = u at *
  go_enter Try.func108, Try.ntmps108
  go_wp2_with fail
  refine hn.mono ?_; rintro e w1 ⟨rfl, hR1, hk1⟩
  go_wp2_with fail
  go_ret
  exact ⟨rfl, hR1, hk1⟩

set_option maxRecDepth 100000 in
theorem rdU16 (b : Nat) (l : List UInt8) (x : Int) (w : World) (hR : RdAt w b l x) :
    Calls Try.prog 84 #[.pointer (some ⟨b, 0, none⟩)] w fun r w' => r = .returned (.int .u16 (numR 2 l x).1) ∧ RdAt w' b (numR 2 l x).2.1 (numR 2 l x).2.2 ∧ Kept [b] w w' := by
  have hn : Calls Try.prog 82 #[.pointer (some ⟨b, 0, none⟩), .int .i64 2] w fun r w' => r = .returned (.int .u64 (numR 2 l x).1) ∧ RdAt w' b (numR 2 l x).2.1 (numR 2 l x).2.2 ∧ Kept [b] w w' := packNumber b 2 l x w hR (by omega)
  have hb := numR_lt 2 l x
  have hb' : ((numR 2 l x).1 : Int) < 65536 := by omega
  clear hb
  generalize numR 2 l x = u at *
  go_enter Try.func84, Try.ntmps84
  go_wp2_with fail
  refine hn.mono ?_; rintro e w1 ⟨rfl, hR1, hk1⟩
  go_wp2_with fail
  go_ret
  exact ⟨rfl, hR1, hk1⟩

set_option maxRecDepth 100000 in
theorem rdU32 (b : Nat) (l : List UInt8) (x : Int) (w : World) (hR : RdAt w b l x) :
    Calls Try.prog 40 #[.pointer (some ⟨b, 0, none⟩)] w fun r w' => r = .returned (.int .u32 (numR 4 l x).1) ∧ RdAt w' b (numR 4 l x).2.1 (numR 4 l x).2.2 ∧ Kept [b] w w' := by
  have hn : Calls Try.prog 82 #[.pointer (some ⟨b, 0, none⟩), .int .i64 4] w fun r w' => r = .returned (.int .u64 (numR 4 l x).1) ∧ RdAt w' b (numR 4 l x).2.1 (numR 4 l x).2.2 ∧ Kept [b] w w' := packNumber b 4 l x w hR (by omega)
  have hb := numR_lt 4 l x
  have hb' : ((numR 4 l x).1 : Int) < 4294967296 := by omega
  clear hb
  generalize numR 4 l x = u at *
  go_enter Try.func40, Try.ntmps40
  go_wp2_with fail
  refine hn.mono ?_; rintro e w1 ⟨rfl, hR1, hk1⟩
  go_wp2_with fail
  go_ret
  exact ⟨rfl, hR1, hk1⟩

set_option maxRecDepth 100000 in
theorem rdU8_nil (w : World) :
    Calls Try.prog 108 #[.pointer none] w fun r w' => r = .returned (.int .u8 0) ∧ w = w' := by
  have hn : ∀ w, Calls Try.prog 82 #[.pointer none, .int .i64 1] w fun r w' => r = .returned (.int .u64 0) ∧ w = w' := fun w => packNumber_nil 1 w
  go_enter Try.func108, Try.ntmps108
  go_wp2_with fail
  refine (hn _).mono ?_; rintro e w1 ⟨rfl, rfl⟩
  go_wp2_with fail
  go_ret
  exact ⟨rfl, rfl⟩

set_option maxRecDepth 100000 in
theorem rdU16_nil (w : World) :
    Calls Try.prog 84 #[.pointer none] w fun r w' => r = .returned (.int .u16 0) ∧ w = w' := by
  have hn : ∀ w, Calls Try.prog 82 #[.pointer none, .int .i64 2] w fun r w' => r = .returned (.int .u64 0) ∧ w = w' := fun w => packNumber_nil 2 w
  go_enter Try.func84, Try.ntmps84
  go_wp2_with fail
  refine (hn _).mono ?_; rintro e w1 ⟨rfl, rfl⟩
  go_wp2_with fail
  go_ret
  exact ⟨rfl, rfl⟩

set_option maxRecDepth 100000 in
theorem rdU32_nil (w : World) :
    Calls Try.prog 40 #[.pointer none] w fun r w' => r = .returned (.int .u32 0) ∧ w = w' := by
  have hn : ∀ w, Calls Try.prog 82 #[.pointer none, .int .i64 4] w fun r w' => r = .returned (.int .u64 0) ∧ w = w' := fun w => packNumber_nil 4 w
  go_enter Try.func40, Try.ntmps40
  go_wp2_with fail
  refine (hn _).mono ?_; rintro e w1 ⟨rfl, rfl⟩
  go_wp2_with fail
  go_ret
  exact ⟨rfl, rfl⟩

/-- a length that is not above a greatest one. -/
def lenR (most : Nat) (l : List UInt8) (x : Int) : Nat × List UInt8 × Int :=
  let u := numR 4 l x
  if most < u.1 then (0, [], keepErr 2 u.2.2) else u

set_option maxRecDepth 100000 in
theorem rdLength (b most : Nat) (l : List UInt8) (x : Int) (w : World) (hR : RdAt w b l x) (hm : most < 1000000000) :
    Calls Try.prog 118 #[.pointer (some ⟨b, 0, none⟩), .int .i64 most] w fun r w' => r = .returned (.int .i64 (lenR most l x).1) ∧ RdAt w' b (lenR most l x).2.1 (lenR most l x).2.2 ∧ Kept [b] w w' := by
  have hn : Calls Try.prog 82 #[.pointer (some ⟨b, 0, none⟩), .int .i64 4] w fun r w' => r = .returned (.int .u64 (numR 4 l x).1) ∧ RdAt w' b (numR 4 l x).2.1 (numR 4 l x).2.2 ∧ Kept [b] w w' := packNumber b 4 l x w hR (by omega)
  have hb := numR_lt 4 l x
  unfold lenR
  generalize numR 4 l x = u at *
  by_cases hlt : most < u.1
  · rw [if_pos hlt]
    go_enter Try.func118, Try.ntmps118
    go_wp2_with fail
    refine hn.mono ?_; rintro e w1 ⟨rfl, hR1, hk1⟩
    go_wp2_with fail
    refine (packFail b u.2.1 u.2.2 2 _ hR1).mono ?_; rintro e w2 ⟨rfl, hR2, hk2⟩
    go_wp2_with fail
    go_ret
    exact ⟨rfl, hR2, hk1.trans hk2⟩
  · rw [if_neg hlt]
    go_enter Try.func118, Try.ntmps118
    go_wp2_with fail
    refine hn.mono ?_; rintro e w1 ⟨rfl, hR1, hk1⟩
    go_wp2_with fail
    go_ret
    exact ⟨rfl, hR1, hk1⟩

/-- the next text. -/
def textR (l : List UInt8) (x : Int) : List UInt8 × List UInt8 × Int :=
  let u := lenR 65536 l x
  takeR u.1 u.2.1 u.2.2

set_option maxRecDepth 100000 in
theorem rdText (b : Nat) (l : List UInt8) (x : Int) (w : World) (hR : RdAt w b l x) :
    Calls Try.prog 109 #[.pointer (some ⟨b, 0, none⟩)] w fun r w' => r = .returned (.string (bs (textR l x).1)) ∧ RdAt w' b (textR l x).2.1 (textR l x).2.2 ∧ Kept [b] w w' := by
  have hn : Calls Try.prog 118 #[.pointer (some ⟨b, 0, none⟩), .int .i64 65536] w fun r w' => r = .returned (.int .i64 (lenR 65536 l x).1) ∧ RdAt w' b (lenR 65536 l x).2.1 (lenR 65536 l x).2.2 ∧ Kept [b] w w' := rdLength b 65536 l x w hR (by omega)
  unfold textR
  generalize lenR 65536 l x = u at *
  go_enter Try.func109, Try.ntmps109
  go_wp2_with fail
  refine hn.mono ?_; rintro e w1 ⟨rfl, hR1, hk1⟩
  go_wp2_with fail
  refine (packTake b u.2.1 u.2.2 u.1 _ hR1).mono ?_; rintro e w2 ⟨rfl, hR2, hk2⟩
  go_wp2_with fail
  go_ret
  exact ⟨rfl, hR2, hk1.trans hk2⟩

set_option maxRecDepth 100000 in
theorem rdText_nil (w : World) :
    Calls Try.prog 109 #[.pointer none] w fun r w' => r = .returned (.string { data := #[] }) ∧ w = w' := by
  go_enter Try.func109, Try.ntmps109
  go_wp2_with fail
  go_ret
  exact ⟨rfl, rfl⟩

set_option maxRecDepth 100000 in
theorem rdLeft (b : Nat) (l : List UInt8) (x : Int) (w : World) (hR : RdAt w b l x) :
    Calls Try.prog 39 #[.pointer (some ⟨b, 0, none⟩)] w fun r w' => r = .returned (.int .i64 l.length) ∧ w = w' := by
  have c0 : w.cell? ⟨b, 0, none⟩ = some (.string (bs l)) := Own.cell hR 0 (by simp)
  have hz := bs_size l
  go_enter Try.func39, Try.ntmps39
  go_wp2_with fail
  go_ret
  exact ⟨rfl, rfl⟩

set_option maxRecDepth 100000 in
theorem rdErr (b : Nat) (l : List UInt8) (x : Int) (w : World) (hR : RdAt w b l x) :
    Calls Try.prog 43 #[.pointer (some ⟨b, 0, none⟩)] w fun r w' => r = .returned (.int .i64 x) ∧ w = w' := by
  have c1 : w.cell? ⟨b, 1, none⟩ = some (.int .i64 x) := Own.cell hR 1 (by simp)
  go_enter Try.func43, Try.ntmps43
  go_wp2_with fail
  go_ret
  exact ⟨rfl, rfl⟩

set_option maxRecDepth 100000 in
theorem rdErr_nil (w : World) :
    Calls Try.prog 43 #[.pointer none] w fun r w' => r = .returned (.int .i64 4) ∧ w = w' := by
  go_enter Try.func43, Try.ntmps43
  go_wp2_with fail
  go_ret
  exact ⟨rfl, rfl⟩

/-- what End tells. -/
def endR (l : List UInt8) (x : Int) : Int := if x = 0 ∧ l ≠ [] then 7 else x

set_option maxRecDepth 100000 in
theorem rdEnd (b : Nat) (l : List UInt8) (x : Int) (w : World) (hR : RdAt w b l x) :
    Calls Try.prog 86 #[.pointer (some ⟨b, 0, none⟩)] w fun r w' => r = .returned (.int .i64 (endR l x)) ∧ w = w' := by
  have h1 := rdErr b l x w hR
  have h2 := rdLeft b l x w hR
  by_cases hx : x = 0
  · subst hx
    by_cases hl : l = []
    · subst hl
      have he : endR [] 0 = 0 := by simp [endR]
      rw [he]
      simp only [List.length_nil] at h2
      clear he
      go_enter Try.func86, Try.ntmps86
      go_wp2_with fail
      refine h1.mono ?_; rintro e w1 ⟨rfl, rfl⟩
      go_wp2_with fail
      refine h2.mono ?_; rintro e w1 ⟨rfl, rfl⟩
      go_wp2_with fail
      refine h1.mono ?_; rintro e w1 ⟨rfl, rfl⟩
      go_wp2_with fail
      go_ret
      exact ⟨rfl, rfl⟩
    · have he : endR l 0 = 7 := by simp [endR, hl]
      have hpos : 0 < l.length := List.length_pos_iff.2 hl
      rw [he]
      clear he hl
      go_enter Try.func86, Try.ntmps86
      go_wp2_with fail
      refine h1.mono ?_; rintro e w1 ⟨rfl, rfl⟩
      go_wp2_with fail
      refine h2.mono ?_; rintro e w1 ⟨rfl, rfl⟩
      go_wp2_with fail
      go_ret
      exact ⟨rfl, rfl⟩
  · have he : endR l x = x := by simp [endR, hx]
    have hd : (x == 0) = false := by simpa using hx
    rw [he]
    clear he
    go_enter Try.func86, Try.ntmps86
    go_wp2_with fail
    refine h1.mono ?_; rintro e w1 ⟨rfl, rfl⟩
    go_wp2_with fail
    refine h1.mono ?_; rintro e w1 ⟨rfl, rfl⟩
    go_wp2_with fail
    go_ret
    exact ⟨rfl, rfl⟩

set_option maxRecDepth 100000 in
theorem rdEnd_nil (w : World) :
    Calls Try.prog 86 #[.pointer none] w fun r w' => r = .returned (.int .i64 4) ∧ w = w' := by
  go_enter Try.func86, Try.ntmps86
  go_wp2_with fail
  refine (rdErr_nil _).mono ?_; rintro e w1 ⟨rfl, rfl⟩
  go_wp2_with fail
  refine (rdErr_nil _).mono ?_; rintro e w1 ⟨rfl, rfl⟩
  go_wp2_with fail
  go_ret
  exact ⟨rfl, rfl⟩
end Go.Proofs.Ytegbekeopgponaa
