/- A disk of the call's own, or two side by side, as what a caller needs of them; sectors as they are seen; bytes that came in. -/
import Derived.Test.YtdnbddhjdokbfaaG02
import Derived.Test.YtdnbddhjdokbfaaG04
import Derived.Test.YtdnbddhjdokbfaaG19
import Derived.Test.YtdnbddhjdokbfaaG23
import Derived.Test.YtdnbddhjdokbfaaG24
namespace Go.Proofs.Ytdnbddhjdokbfaa
open Go.ChangeShapes Go.WideShapes Go.ChangeAt Go.RowKit Go.Deep
set_option linter.unusedVariables false
set_option linter.unusedSimpArgs false

theorem lastOf_mem {l : List (Nat × List UInt8)} {i : Nat} {s : List UInt8} (h : lastOf l i = some s) : (i, s) ∈ l := by
  suffices ∀ (l m : List (Nat × List UInt8)), m ++ l = m ++ l → ∀ n, n ≤ l.length → lastOf (l.take n) i = some s → (i, s) ∈ l by
    exact this l [] rfl l.length (Nat.le_refl _) (by rwa [List.take_length])
  intro l m _ n
  induction n with
  | zero => intro _ h; rw [List.take_zero, lastOf_nil] at h; cases h
  | succ n ih =>
    intro hn h
    rw [List.take_succ_eq_append_getElem (by omega), lastOf_snoc] at h
    split at h
    · rename_i he
      injection h with h
      have : l[n] = (i, s) := Prod.ext he h
      rw [← this]; exact List.getElem_mem _
    · exact ih (by omega) h
theorem seen_len {d : DK} (hf : Fit d) {i : Nat} (hi : i < d.stand.length) : (seen d i).length = 128 := by
  unfold seen
  cases h : lastOf d.waits i with
  | some s => exact (hf.fine _ (lastOf_mem h)).2
  | none =>
    show (d.stand.getD i []).length = 128
    rw [List.getD_eq_getElem?_getD, List.getElem?_eq_getElem hi]
    exact hf.all _ (List.getElem_mem hi)
/-- what a caller of a disk's calls needs of whatever holds the disk at b. -/
structure DOps (Inv : DK → World → Prop) (b : Nat) : Prop where
  len : ∀ {d w}, Inv d w → 1 ≤ d.stand.length ∧ d.stand.length ≤ 8192
  fit : ∀ {d w}, Inv d w → Fit d
  keep : ∀ {d w w'}, Inv d w → Kept [] w w' → Inv d w'
  lenC : ∀ {d w}, Inv d w → Calls Try.prog 65 #[.pointer (some ⟨b, 0, none⟩)] w fun e w' => e = .returned (.int .i64 d.stand.length) ∧ w = w'
  downC : ∀ {d w}, Inv d w → Calls Try.prog 27 #[.pointer (some ⟨b, 0, none⟩)] w fun e w' => e = .returned (.bool d.down) ∧ w = w'
  readC : ∀ {d w} (i : Int), Inv d w → Calls Try.prog 36 #[.pointer (some ⟨b, 0, none⟩), .int .i64 i] w fun e w' => e = .returned (.tuple #[.string (bs (rVal d i)), .int .i64 (atOf d i)]) ∧ w = w'
  writeC : ∀ {d w} (i : Int) (s : List UInt8), Inv d w → d.ops < 100000 → d.waits.length ≤ 10000 → Calls Try.prog 38 #[.pointer (some ⟨b, 0, none⟩), .int .i64 i, .string (bs s)] w fun e w' => e = .returned (.int .i64 (wCode d i s)) ∧ Inv (wNext d i s) w'
theorem aloneOps (W0 : World) (b sb mb lo : Nat) : DOps (fun d w => Alone W0 w b sb mb lo d) b where
  len := fun h => h.len
  fit := fun h => h.fit
  keep := fun h k => h.keep0 k
  lenC := fun h => dLen b sb mb lo _ _ h.disk
  downC := fun h => dDown b sb mb lo _ _ h.disk
  readC := fun i h => h.read i
  writeC := fun i s h ho hw => (h.write i s ho hw).mono fun e w' hh => ⟨hh.1, hh.2.1⟩
theorem wNext_ops (d : DK) (i : Int) (s : List UInt8) : (wNext d i s).ops ≤ d.ops + 1 ∧ (wNext d i s).waits.length ≤ d.waits.length + 1 ∧ (wNext d i s).stand.length = d.stand.length := by
  unfold wNext
  split
  · unfold writeD; simp
  · simp
/-- the next sector of what is to be written. -/
def chunk (s : List UInt8) : List UInt8 := fillL (s.take 128) 128
theorem chunk_len (s : List UInt8) : (chunk s).length = 128 := by
  unfold chunk fillL
  have : (s.take 128).length ≤ 128 := List.length_take_le _ _
  rw [List.length_append, List.length_replicate]; omega
/-- the program's disk beside the document's. -/
theorem bothOps (W0 : World) (b sb mb lo r rlo : Nat) (rd : DK) : DOps (fun d w => Both W0 w b sb mb lo r rlo d rd) b where
  len := fun h => h.alone.len
  fit := fun h => h.alone.fit
  keep := fun h k => h.keep0 k
  lenC := fun h => dLen b sb mb lo _ _ h.alone.disk
  downC := fun h => dDown b sb mb lo _ _ h.alone.disk
  readC := fun i h => h.alone.read i
  writeC := fun i s h ho hw => (h.dWrite i s ho hw).mono fun e w' hh => ⟨hh.1, hh.2.1⟩
/-- what a caller of the document's disk needs of whatever holds it at r. -/
structure QOps (Inv : DK → World → Prop) (r : Nat) : Prop where
  len : ∀ {d w}, Inv d w → 1 ≤ d.stand.length ∧ d.stand.length ≤ 8192
  fit : ∀ {d w}, Inv d w → Fit d
  keep : ∀ {d w w'}, Inv d w → Kept [] w w' → Inv d w'
  down : ∀ {d w}, Inv d w → w.cell? ⟨r, 4, none⟩ = some (.bool d.down)
  readC : ∀ {d w} (i : Int), Inv d w → Calls Try.prog 76 #[.pointer (some ⟨r, 0, none⟩), .int .i64 i] w fun e w' => e = .returned (.tuple #[.string (bs (rVal d i)), .int .i64 (atOf d i)]) ∧ w = w'
  writeC : ∀ {d w} (i : Int) (s : List UInt8), Inv d w → d.ops < 100000 → d.waits.length < 20000 → Calls Try.prog 74 #[.pointer (some ⟨r, 0, none⟩), .int .i64 i, .string (bs s)] w fun e w' => e = .returned (.int .i64 (wCode d i s)) ∧ Inv (wNext d i s) w'
theorem RAt.down4 {w : World} {r lo : Nat} {d : DK} (h : RAt w r lo d) : w.cell? ⟨r, 4, none⟩ = some (.bool d.down) := by
  obtain ⟨p, c, p', c', _, _, _, _, c4, _⟩ := h.five
  exact c4
theorem RAt.lens {w : World} {r lo : Nat} {d : DK} (h : RAt w r lo d) : 1 ≤ d.stand.length ∧ d.stand.length ≤ 8192 := by
  obtain ⟨sv, wv, o, hs, hw, h1, h2, h3, h4, _⟩ := h
  exact ⟨h3, h4⟩
/-- the document's disk beside the program's. -/
theorem bothQ (W0 : World) (b sb mb lo r rlo : Nat) (d : DK) : QOps (fun rd w => Both W0 w b sb mb lo r rlo d rd) r where
  len := fun h => h.ref.lens
  fit := fun h => h.rfit
  keep := fun h k => h.keep0 k
  down := fun h => h.ref.down4
  readC := fun i h => h.qRead i
  writeC := fun i s h ho hw => (h.qWrite i s ho hw).mono fun e w' hh => ⟨hh.1, hh.2.1⟩
theorem sk_at (st : List (List UInt8)) (ws : List (Nat × List UInt8)) (keep : Nat → Bool) (n i : Nat) (hn : n ≤ ws.length) : (sk st ws keep n).getD i [] = st.getD i [] ∨ ∃ x ∈ ws, x.1 = i ∧ (sk st ws keep n).getD i [] = x.2 := by
  induction n with
  | zero => exact Or.inl rfl
  | succ n ih =>
    rw [sk_succ _ _ _ _ (by omega)]
    split
    · by_cases h : ws[n].1 = i ∧ i < st.length
      · refine Or.inr ⟨ws[n], List.getElem_mem _, h.1, ?_⟩
        obtain ⟨h, hl⟩ := h
        subst h
        rw [List.getD_eq_getElem?_getD, List.getElem?_set_self (by rw [sk_len]; exact hl)]
        rfl
      · have e : ((sk st ws keep n).set ws[n].1 ws[n].2).getD i [] = (sk st ws keep n).getD i [] := by
          rw [List.getD_eq_getElem?_getD, List.getD_eq_getElem?_getD]
          by_cases h1 : ws[n].1 = i
          · have h2 : ¬ i < st.length := fun h2 => h ⟨h1, h2⟩
            rw [List.getElem?_eq_none (by rw [List.length_set, sk_len]; omega), List.getElem?_eq_none (by rw [sk_len]; omega)]
          · rw [List.getElem?_set_ne h1]
        rw [e]
        exact ih (by omega)
    · exact ih (by omega)
theorem sk_last (st : List (List UInt8)) (ws : List (Nat × List UInt8)) (n i : Nat) (hn : n ≤ ws.length) (hi : i < st.length) : (sk st ws (fun _ => true) n).getD i [] = (lastOf (ws.take n) i).getD (st.getD i []) := by
  induction n with
  | zero => rfl
  | succ n ih =>
    rw [sk_succ _ _ _ _ (by omega), if_pos rfl, List.take_succ_eq_append_getElem (by omega), lastOf_snoc]
    by_cases h : ws[n].1 = i
    · rw [if_pos h]
      subst h
      rw [List.getD_eq_getElem?_getD, List.getElem?_set_self (by rw [sk_len]; exact hi)]
      rfl
    · rw [if_neg h, ← ih (by omega), List.getD_eq_getElem?_getD, List.getElem?_set_ne h, ← List.getD_eq_getElem?_getD]
theorem seen_settle (d : DK) (i : Nat) (hi : i < d.stand.length) : seen (settleD d (fun _ => true)) i = seen d i := by
  have := sk_last d.stand d.waits d.waits.length i (Nat.le_refl _) hi
  rw [List.take_length] at this
  unfold seen
  exact this
theorem seen_write (d : DK) (a i : Nat) (s : List UInt8) : seen (writeD d a s) i = if a = i then s else seen d i := by
  unfold seen writeD
  simp only [lastOf_snoc]
  split <;> rfl
theorem settle_len (d : DK) (k : Nat → Bool) : (settleD d k).stand.length = d.stand.length := sk_len _ _ _ _
theorem power_len (d : DK) (k : List Bool) : (powerD d k).stand.length = d.stand.length := sk_len _ _ _ _
/-- a text's sectors. -/
def chunksL : Nat → List UInt8 → List UInt8
  | 0, _ => []
  | m + 1, W => chunk W ++ chunksL m (W.drop 128)
theorem chunk_head (W : List UInt8) : ∃ z, chunk W = W.take 128 ++ z := ⟨_, rfl⟩
theorem chunksL_take (m : Nat) (W : List UInt8) (h : W.length ≤ 128 * m) : (chunksL m W).take W.length = W := by
  induction m generalizing W with
  | zero =>
    have : W = [] := List.eq_nil_of_length_eq_zero (by omega)
    subst this; rfl
  | succ m ih =>
    rw [chunksL]
    by_cases hs : W.length ≤ 128
    · obtain ⟨z, hz⟩ := chunk_head W
      rw [hz, List.take_of_length_le hs, List.append_assoc, List.take_append_of_le_length (Nat.le_refl _), List.take_length]
    · have e := ih (W.drop 128) (by rw [List.length_drop]; omega)
      rw [List.length_drop] at e
      have hc : chunk W = W.take 128 := by
        obtain ⟨z, hz⟩ := chunk_head W
        have hl := chunk_len W
        rw [hz, List.length_append, List.length_take] at hl
        have : z = [] := List.eq_nil_of_length_eq_zero (by omega)
        rw [hz, this, List.append_nil]
      rw [hc, List.take_append, List.length_take, Nat.min_eq_left (by omega), e, List.take_of_length_le (by rw [List.length_take]; omega), List.take_append_drop]
theorem write_ok {d : DK} {a : Nat} {s : List UInt8} (hd : d.down = false) (hfu : d.fuse < 0) (ha : a < d.stand.length) : wCode d a (chunk s) = 0 ∧ wNext d a (chunk s) = writeD d a (chunk s) := by
  have hat : atOf d (a : Int) = 0 := by
    unfold atOf
    rw [hd, if_neg (by simp), if_neg (by omega)]
  refine ⟨?_, ?_⟩
  · unfold wCode
    rw [hat, chunk_len, if_neg (by simp), if_neg (by simp), if_neg (by omega)]
  · unfold wNext
    rw [if_pos ⟨hat, chunk_len s⟩, Int.toNat_natCast]
theorem chunk_pre (p s : List UInt8) (h : p.length ≤ 128) : (chunk (p ++ s)).take p.length = p := by
  obtain ⟨z, hz⟩ := chunk_head (p ++ s)
  rw [hz, List.take_append_of_le_length (by rw [List.length_take, List.length_append]; omega), List.take_take, Nat.min_eq_left h, List.take_append_of_le_length (Nat.le_refl _), List.take_length]
theorem BKept.own' {b sb mb lo r : Nat} {w w' : World} {g : Nat} {cs : Array Value} {t : TypeId} (k : BKept b sb mb lo r w w') (o : Own w g cs t) (h1 : b < g) (h2 : sb < g) (h3 : mb < g) (h4 : r < g) (ht : t ≠ 97) : Own w' g cs t :=
  Eq.trans (k.2.2.2.2 g o.lt (by omega) (by omega) (by omega) (by omega) (Or.inr (fun cs2 f hc => by
    have o' : w.heap[g]? = some (.cells cs t (0, 0)) := o
    rw [o'] at hc
    injection hc with hc
    injection hc with _ e
    exact ht e))) o
theorem Both.lt' {W0 w : World} {b sb mb lo r rlo : Nat} {d rd : DK} (h : Both W0 w b sb mb lo r rlo d rd) : b < w.heap.size ∧ sb < w.heap.size ∧ mb < w.heap.size ∧ r < w.heap.size := by
  obtain ⟨wv, n, o, os, hwr, hm, _⟩ := h.alone.disk
  obtain ⟨v0, v1, o2⟩ := h.ref.own
  exact ⟨o.lt, os.lt, hm.lt, o2.lt⟩
/-- a disk that never was cut. -/
structure Calm (d : DK) (n m : Nat) : Prop where
  len : d.stand.length = n
  ops : d.ops ≤ m
  waits : d.waits.length ≤ m
  down : d.down = false
  fuse : d.fuse = -1
theorem Calm.write {d : DK} {n m : Nat} (h : Calm d n m) (i : Int) (s : List UInt8) : Calm (wNext d i s) n (m + 1) := by
  obtain ⟨h1, h2, h3, h4, h5⟩ := h
  unfold wNext
  split
  · refine ⟨h1, by show d.ops + 1 ≤ m + 1; omega, by show (d.waits ++ [_]).length ≤ m + 1; rw [List.length_append, List.length_singleton]; omega, ?_, ?_⟩
    · show (if d.fuse = 0 then true else d.down) = false
      rw [if_neg (by omega), h4]
    · show (if 0 < d.fuse then d.fuse - 1 else d.fuse) = -1
      rw [if_neg (by omega), h5]
  · exact ⟨h1, by omega, by omega, h4, h5⟩
theorem Calm.flush {d : DK} {n m : Nat} (h : Calm d n m) : Calm (fNext d) n (m + 1) ∧ (fNext d).waits = [] := by
  obtain ⟨h1, h2, h3, h4, h5⟩ := h
  have hn : fNext d = settleD (opD d) (fun _ => true) := by
    unfold fNext
    rw [if_neg (by rw [h4]; simp), if_neg (by omega)]
  rw [hn]
  refine ⟨⟨(settle_len _ _).trans h1, by show d.ops + 1 ≤ m + 1; omega, Nat.zero_le _, ?_, ?_⟩, rfl⟩
  · show (if d.fuse = 0 then true else d.down) = false
    rw [if_neg (by omega), h4]
  · show (if 0 < d.fuse then d.fuse - 1 else d.fuse) = -1
    rw [if_neg (by omega), h5]
theorem nrm_calm {d : DK} (h : d.fuse = -1) : nrm d = d := by
  obtain ⟨st, ws, fu, op, dn⟩ := d
  simp only at h
  subst h
  rfl
/-- the slice v reads as the bytes l. -/
def BytesIn (w : World) (v : Value) (l : List UInt8) (lo hi : Nat) : Prop :=
  (l = [] ∧ ∃ a c, v = .slice a 0 c) ∨
  ∃ b off c, v = .slice (some ⟨b, off, none⟩) l.length c ∧ (∀ i (h : i < l.length), w.cell? ⟨b, off + i, none⟩ = some (.int .u8 (l[i].toNat : Int))) ∧ lo ≤ b ∧ b < hi ∧ hi ≤ w.heap.size ∧ l ≠ [] ∧ l.length ≤ c ∧ c ≤ maxLen
theorem BytesIn.kept0 {w w' : World} {v : Value} {l : List UInt8} {lo hi : Nat} (h : BytesIn w v l lo hi) (k : Kept [] w w') : BytesIn w' v l lo hi := by
  rcases h with h | ⟨b, off, c, h1, h2, h3, h4, h5, h6, h7, h8⟩
  · exact Or.inl h
  · refine Or.inr ⟨b, off, c, h1, fun i hi => ?_, h3, h4, Nat.le_trans h5 k.size, h6, h7, h8⟩
    rw [k.cell (by show b < _; omega) (by simp)]
    exact h2 i hi
theorem BytesIn.shape {w : World} {v : Value} {l : List UInt8} {lo hi : Nat} (h : BytesIn w v l lo hi) : ∃ p c, v = .slice p l.length c := by
  rcases h with ⟨rfl, a, c, rfl⟩ | ⟨b, off, c, rfl, _⟩
  · exact ⟨a, c, rfl⟩
  · exact ⟨_, c, rfl⟩
theorem BytesIn.len {w : World} {v : Value} {l : List UInt8} {lo hi : Nat} (h : BytesIn w v l lo hi) : l.length ≤ maxLen := by
  rcases h with ⟨rfl, a, c, rfl⟩ | ⟨b, off, c, rfl, _, _, _, _, _, h7, h8⟩
  · exact Nat.zero_le _
  · omega
theorem BytesIn.at_ {w : World} {p : Option Addr} {n c : Nat} {l : List UInt8} {lo hi : Nat} (h : BytesIn w (.slice p n c) l lo hi) (i : Nat) (hi' : i < l.length) :
    ∃ b off, p = some ⟨b, off, none⟩ ∧ w.cell? ⟨b, off + i, none⟩ = some (.int .u8 (l[i].toNat : Int)) ∧ lo ≤ b ∧ b < hi ∧ hi ≤ w.heap.size := by
  rcases h with ⟨rfl, _⟩ | ⟨b, off, c', e, h2, h3, h4, h5, _⟩
  · simp at hi'
  · simp at e
    exact ⟨b, off, e.1, h2 i hi', h3, h4, h5⟩
section
variable {H : Type} {enc : TypeId × Value → H} {w : World} {base : Nat} {held : Bool} {r : Reach} {b0 : Nat}
theorem bytes_of_trod {fuel : Nat} {c : Value} {x : DataW H × List MemPlace} (h : DataW.trod enc Try.prog w base (fun _ => true) held fuel 38 [c] = some x) : ∃ l, BytesIn w c l 0 w.heap.size := by
  rcases open_ints Try.underlying38 Try.underlying5 (by kernel_rfl) h with ⟨hcs, _⟩ | ⟨x, l, c, ss, hcs, _, hl, hm, hz, _, hcell, hwz⟩
  · simp at hcs
    subst hcs
    exact ⟨[], Or.inl ⟨rfl, _, _, rfl⟩⟩
  · simp at hcs
    subst hcs
    simp only [if_true] at hz
    by_cases h0 : l = 0
    · subst h0; exact ⟨[], Or.inl ⟨rfl, _, _, rfl⟩⟩
    · obtain ⟨b, off, spot⟩ := x
      have hspot : spot = none := by simpa [Addr.add] using World.cell?_spot (hcell 0 (by omega))
      subst hspot
      have hb : b < w.heap.size := by
        have := hcell 0 (by omega)
        rw [Go.WideShapes.add_plain] at this
        exact World.block_lt_of_cell? _ _ this
      refine ⟨(List.range l).map fun i => UInt8.ofNat (ss.getD i 0).toNat, Or.inr ⟨b, off, c, by simp, fun i hi => ?_, Nat.zero_le _, hb, Nat.le_refl _, fun e => ?_, by simpa using hl, hm⟩⟩
      · have hi' : i < l := by simpa using hi
        have hc := hcell i (by omega)
        rw [Go.WideShapes.add_plain] at hc
        rw [hc]
        have hsl : i < ss.length := by omega
        have hw := hwz _ (List.getElem_mem hsl)
        have hg : ss.getD i 0 = ss[i] := by simp [List.getD, List.getElem?_eq_getElem hsl]
        have h8 : 0 ≤ ss[i] ∧ ss[i] ≤ 255 := by
          simp only [Lit.wf, Bool.and_eq_true, decide_eq_true_eq] at hw
          exact ⟨by have := hw.1; exact this, by have := hw.2; exact this⟩
        simp only [List.getElem_map, List.getElem_range]
        rw [UInt8.toNat_ofNat', hg]
        have e : ((ss[i].toNat % 256 : Nat) : Int) = ss[i] := by omega
        simp only [show 2 ^ 8 = 256 from rfl, e]
      · have := congrArg List.length e
        simp at this; omega
end
end Go.Proofs.Ytdnbddhjdokbfaa

/- Walks of layer 11 (super): needs; whether runs lie apart. -/
namespace Go.Proofs.Ytdnbddhjdokbfaa
open Go.RowKit
set_option linter.unusedVariables false
set_option linter.unusedSimpArgs false

theorem bd64 {n : Int} (h : (Lit.int .i64 n).wf = true) : -9223372036854775808 ≤ n ∧ n ≤ 9223372036854775807 := by
  simp only [Lit.wf, Bool.and_eq_true, decide_eq_true_eq] at h
  exact h
/-- how many sectors so many bytes need. -/
def need (n : Int) : Int := if n < 1 then 0 else (n - 1) / 128 + 1

set_option maxRecDepth 100000 in
theorem pneed (n : Int) (w : World) (hn : (Lit.int .i64 n).wf = true) :
    Calls Try.prog 33 #[.int .i64 n] w fun e w' => e = .returned (.int .i64 (need n)) ∧ w = w' := by
  have hb := bd64 hn
  unfold need
  by_cases h : n < 1
  · rw [if_pos h]
    go_enter Try.func33, Try.ntmps33
    go_wp2_with fail
    go_ret
    exact ⟨rfl, rfl⟩
  · rw [if_neg h]
    go_enter Try.func33, Try.ntmps33
    go_wp2_with fail
    go_ret
    exact ⟨rfl, rfl⟩

/-- what lie says of runs. -/
def LieSays (f s : Int) (l : List (Int × Int)) (w : World) (e : Ending) (w' : World) : Prop := e = .returned (if lies f s l then .tuple #[.int .i64 (sumLen l), .bool true] else .tuple #[.int .i64 0, .bool false]) ∧ Kept [] w w'
theorem lieSays_no {f s : Int} {l : List (Int × Int)} {w w' : World} (h : lies f s l = false) (hk : Kept [] w w') : LieSays f s l w (.returned (.tuple #[.int .i64 0, .bool false])) w' := by
  refine ⟨?_, hk⟩; rw [h]; rfl
theorem lieSays_yes {f s : Int} {l : List (Int × Int)} {w w' : World} (h : lies f s l = true) (hk : Kept [] w w') : LieSays f s l w (.returned (.tuple #[.int .i64 (sumLen l), .bool true])) w' := by
  refine ⟨?_, hk⟩; rw [h]; rfl
theorem okRun_cases {f s : Int} {a : Int × Int} : (okRun f s a = false ∧ (a.1 < f ∨ (f ≤ a.1 ∧ a.2 < 1) ∨ (f ≤ a.1 ∧ 1 ≤ a.2 ∧ s < a.1) ∨ (f ≤ a.1 ∧ 1 ≤ a.2 ∧ a.1 ≤ s ∧ s - a.1 < a.2))) ∨ (okRun f s a = true ∧ f ≤ a.1 ∧ 1 ≤ a.2 ∧ a.1 ≤ s ∧ a.2 ≤ s - a.1) := by
  cases h : okRun f s a
  · refine Or.inl ⟨rfl, ?_⟩
    have h' : ¬ (f ≤ a.1 ∧ 1 ≤ a.2 ∧ a.1 ≤ s ∧ a.2 ≤ s - a.1) := fun hh => by rw [okRun_iff.2 hh] at h; cases h
    omega
  · exact Or.inr ⟨rfl, okRun_iff.1 h⟩
theorem apart_cases {a b : Int × Int} : (apart a b = false ∧ a.1 < b.1 + b.2 ∧ b.1 < a.1 + a.2) ∨ (apart a b = true ∧ (b.1 + b.2 ≤ a.1 ∨ (a.1 < b.1 + b.2 ∧ a.1 + a.2 ≤ b.1))) := by
  cases h : apart a b
  · refine Or.inl ⟨rfl, ?_⟩
    have h' : ¬ (a.1 + a.2 ≤ b.1 ∨ b.1 + b.2 ≤ a.1) := fun hh => by rw [apart_iff.2 hh] at h; cases h
    omega
  · have := apart_iff.1 h
    exact Or.inr ⟨rfl, by omega⟩

end Go.Proofs.Ytdnbddhjdokbfaa
