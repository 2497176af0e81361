/- Layer 10 (extent): whether a list has a sector: the program's Has and the reference's. -/
import Derived.Test.YtdnbddhjdokbfaaG13
import Derived.Test.YtdnbddhjdokbfaaG19
import Derived.Test.YtdnbddhjdokbfaaG36
import Derived.Laws.IdiomCopy
import Derived.Lib.SlBuf
namespace Go.Proofs.Ytdnbddhjdokbfaa
open Go.RowKit
set_option linter.unusedVariables false
set_option linter.unusedSimpArgs false

/-- is a sector one of a run's? -/
def inRun (r : Int × Int) (k : Int) : Bool := decide (r.1 ≤ k) && decide (k < r.1 + r.2)
theorem inRun_iff {r : Int × Int} {k : Int} : inRun r k = true ↔ r.1 ≤ k ∧ k < r.1 + r.2 := by unfold inRun; simp
/-- what the search tells. -/
def IdxSays (l : List (Int × Int)) (k : Int) (w : World) (e : Ending) (w' : World) : Prop := ∃ r : Int, e = .returned (.int .i64 r) ∧ -1 ≤ r ∧ r ≤ 8192 ∧ (0 ≤ r ↔ inS l k) ∧ Kept [] w w'
theorem idxSays_yes {l : List (Int × Int)} {k : Int} {w w' : World} {m : Nat} (hm : m < l.length) (hl : l.length ≤ 8192) (h : inRun l[m] k = true) (hk : Kept [] w w') : IdxSays l k w (.returned (.int .i64 m)) w' :=
  ⟨m, rfl, by omega, by omega, ⟨fun _ => ⟨l[m], List.getElem_mem hm, inRun_iff.1 h⟩, fun _ => by omega⟩, hk⟩
theorem idxSays_no {l : List (Int × Int)} {k : Int} {w w' : World} (h : ∀ j (hj : j < l.length), inRun l[j] k = false) (hk : Kept [] w w') : IdxSays l k w (.returned (.int .i64 (-1))) w' :=
  ⟨-1, rfl, by omega, by omega, ⟨fun q => by omega, fun ⟨r, hr, h1⟩ => by
    obtain ⟨j, hj, rfl⟩ := List.mem_iff_getElem.1 hr
    have := h j hj
    rw [inRun_iff.2 h1] at this
    cases this⟩, hk⟩
/-- has a list a sector, whichever number? -/
def hasI (l : List (Int × Int)) (k : Int) : Bool := decide (0 ≤ k) && (decide (k < 8192) && hasB l k.toNat)
theorem hasI_iff {l : List (Int × Int)} {k : Int} : hasI l k = true ↔ inS (plainL l) k := by
  unfold hasI plainL
  rw [canon_is]
  constructor
  · intro h
    simp only [Bool.and_eq_true, decide_eq_true_eq] at h
    exact ⟨k.toNat, by omega, by omega, h.2.2⟩
  · rintro ⟨m, rfl, h1, h2⟩
    simp only [Bool.and_eq_true, decide_eq_true_eq]
    exact ⟨by omega, by omega, by simpa using h2⟩
set_option maxRecDepth 100000 in
set_option maxHeartbeats 1000000 in
theorem zhas (v : Value) (l : List (Int × Int)) (k : Int) (lo hi : Nat) (w : World) (h : RunsIn w v l lo hi) (hl : l.length ≤ 1000000) (hwf : ∀ a ∈ l, WfRun a) :
    Calls Try.prog 22 #[v, .int .i64 k] w fun e w' => e = .returned (.bool (hasI l k)) ∧ Kept [] w w' := by
  have hz := zrow v l lo hi w h hl hwf
  obtain ⟨p, c, rfl⟩ := h.shape
  have HZ := Lib.hid hz
  clear hz h hwf
  unfold hasI
  rcases (by omega : k < 0 ∨ (0 ≤ k ∧ 8192 ≤ k) ∨ (0 ≤ k ∧ k < 8192)) with h | ⟨h, h2⟩ | ⟨h, h2⟩
  · rw [decide_eq_false (by omega : ¬ 0 ≤ k), Bool.false_and]
    go_enter Try.func22, Try.ntmps22
    go_wp2_with fail
    go_ret
    exact ⟨rfl, Kept.refl _ _⟩
  · rw [decide_eq_false (by omega : ¬ k < 8192), Bool.false_and, Bool.and_false]
    go_enter Try.func22, Try.ntmps22
    go_wp2_with fail
    go_ret
    exact ⟨rfl, Kept.refl _ _⟩
  · obtain ⟨m, rfl⟩ := Int.eq_ofNat_of_zero_le h
    rw [decide_eq_true h, decide_eq_true h2, Bool.true_and, Bool.true_and, Int.toNat_natCast]
    generalize hasB l = F at *
    go_enter Try.func22, Try.ntmps22
    go_wp2_with fail
    refine HZ.out.mono ?_; rintro e w1 ⟨rfl, r1, k1⟩
    have hm8 : m < 8192 := by omega
    have hc1 := Rw.cell r1 m hm8
    clear r1
    go_wp2_with fail
    go_ret
    exact ⟨rfl, k1⟩
end Go.Proofs.Ytdnbddhjdokbfaa

/- Layer 12 (blob): bytes laid as a disk; what was put is got (BlobBack's walk). -/
namespace Go.Proofs.Ytdnbddhjdokbfaa
open Go.RowKit Go.Shelf
set_option linter.unusedVariables false
set_option linter.unusedSimpArgs false

theorem Own.setCells {b : Nat} {t : TypeId} : ∀ (vs : List Value) (o : Nat) {w : World} {cs : Array Value}, Own w b cs t → ∃ ds : Array Value, Own (w.setCells b o vs) b ds t ∧ ds.size = cs.size ∧ ∀ j, ds[j]? = if o ≤ j ∧ j < o + vs.length ∧ j < cs.size then vs[j - o]? else cs[j]?
  | [], o, w, cs, h => ⟨cs, h, rfl, fun j => by rw [if_neg (by simp; omega)]⟩
  | v :: r, o, w, cs, h => by
    obtain ⟨ds, h1, h2, h3⟩ := Own.setCells r (o + 1) (h.set o v)
    refine ⟨ds, h1, by rw [h2]; simp, fun j => ?_⟩
    rw [h3 j]
    simp only [Array.size_setIfInBounds, List.length_cons]
    by_cases hj : j = o
    · subst hj
      rw [if_neg (by omega)]
      by_cases hs : j < cs.size
      · rw [if_pos (by omega), Array.getElem?_setIfInBounds]
        simp [hs]
      · rw [if_neg (by omega), Array.getElem?_setIfInBounds]
        simp [hs]
    · rw [Array.getElem?_setIfInBounds, if_neg (show ¬ o = j from fun e => hj e.symm)]
      by_cases hc : o + 1 ≤ j ∧ j < o + 1 + r.length ∧ j < cs.size
      · rw [if_pos hc, if_pos (by omega)]
        obtain ⟨m, hm⟩ : ∃ m, j - o = m + 1 := ⟨j - o - 1, by omega⟩
        rw [hm, List.getElem?_cons_succ, show j - (o + 1) = m from by omega]
      · rw [if_neg hc, if_neg (by omega)]
theorem kept_setCells {S : List Nat} {w0 : World} (b : Nat) (hb : w0.heap.size ≤ b) : ∀ (vs : List Value) (o : Nat) {w : World}, Kept S w0 w → Kept S w0 (w.setCells b o vs)
  | [], _, _, h => h
  | v :: r, o, w, h => kept_setCells b hb r (o + 1) (h.setCell (Or.inr (by show w0.heap.size ≤ b; exact hb)) v)
set_option maxRecDepth 100000 in
/-- bytes laid over the head of a block of bytes. -/
theorem copy_bytes (w0 w : World) (g N c : Nat) (cur l : List UInt8) (v : Value) (ty : TypeId) (lo hi : Nat) (hN : cur.length = N) (hg : w0.heap.size ≤ g) (o : Own w g (bcells cur) 5) (k : Kept [] w0 w) (hb : BytesIn w v l lo hi) :
    ∃ w' m, (Builtin.copy_ #[38, 38] ty #[.slice (some ⟨g, 0, none⟩) N c, v]).run Try.prog w = .ok (.int .i64 m) w' ∧ Own w' g (bcells (l.take N ++ cur.drop (l.take N).length)) 5 ∧ Kept [] w0 w' := by
  have hu : Try.prog.underlying 38 = some (.slice 5) := Try.underlying38
  have hs : (Try.prog.info? 5).map (·.size) = some 1 := by kernel_rfl
  obtain ⟨p, cv, rfl⟩ := hb.shape
  by_cases h0 : Nat.min l.length N = 0
  · have e : l.take N = [] := by
      apply List.eq_nil_of_length_eq_zero
      rw [List.length_take]
      have : min N l.length = Nat.min l.length N := Nat.min_comm _ _
      omega
    refine ⟨w, 0, ?_, by rw [e]; simpa using o, k⟩
    exact run_copy_none (P := Try.prog) w _ _ ty _ _ _ _ _ _ _ hu hs h0
  · have hpos : 0 < l.length := by
      rcases Nat.eq_zero_or_pos l.length with h | h
      · exact absurd (by rw [h]; exact Nat.zero_min _) h0
      · exact h
    have hle : (l.take N).length ≤ N := by rw [List.length_take]; omega
    obtain ⟨b, off, rfl, _⟩ := hb.at_ 0 hpos
    have hsz : (bcells cur).size = N := by rw [bcells_size, hN]
    have hr := run_copy_cells (P := Try.prog) w 38 38 ty 5 g 0 N c ⟨b, off, none⟩ l.length cv ((l.take N).map fun x => Value.int .u8 (x.toNat : Int)) hu hs (by rw [List.length_map, List.length_take]; exact Nat.min_comm _ _)
      (fun j u hj => by
        rw [List.getElem?_map] at hj
        obtain ⟨x, hx, rfl⟩ := Option.map_eq_some_iff.1 hj
        obtain ⟨hj1, hj2⟩ := List.getElem?_eq_some_iff.1 hx
        have hj3 : j < l.length := by rw [List.length_take] at hj1; omega
        obtain ⟨b', off', e', q, _⟩ := hb.at_ j hj3
        injection e' with e'
        injection e' with e1 e2 _
        subst e1 e2
        have hj4 : l[j]'hj3 = x := by rw [← hj2, List.getElem_take]
        rw [Go.WideShapes.add_plain, q, hj4])
      (fun j hj => by rw [List.length_map] at hj; rw [Nat.zero_add, o.cell j (by omega)]; rfl) (fun j hj => by rw [Nat.zero_add]; exact o.free j)
      (fun u hu' => by obtain ⟨x, _, rfl⟩ := List.mem_map.1 hu'; rfl)
    refine ⟨_, _, hr, ?_, kept_setCells g hg _ _ k⟩
    obtain ⟨ds, h1, h2, h3⟩ := Own.setCells ((l.take N).map fun x => Value.int .u8 (x.toNat : Int)) 0 o
    have e : ds = bcells (l.take N ++ cur.drop (l.take N).length) := by
      apply Array.ext_getElem?
      intro j
      rw [h3 j, hsz, List.length_map, Nat.sub_zero, Nat.zero_add]
      unfold bcells
      by_cases hc : j < (l.take N).length
      · rw [if_pos (by omega)]
        simp only [List.getElem?_map, List.getElem?_toArray]
        rw [List.getElem?_append_left hc]
      · rw [if_neg (by omega)]
        simp only [List.getElem?_map, List.getElem?_toArray]
        rw [List.getElem?_append_right (by omega), List.getElem?_drop]
        congr 2
        omega
    rw [← e]
    exact h1
/-- a part of a block of bytes as a text. -/
theorem own_bytes_at {w : World} {g : Nat} {l : List UInt8} {t : TypeId} (h : Own w g (bcells l) t) (off n : Nat) (hn : off + n ≤ l.length) : Lib.Bytes w g off (bs ((l.drop off).take n)) := by
  intro i hi
  rw [bs_size, List.length_take, List.length_drop] at hi
  have hi' : off + i < l.length := by omega
  have hb : i < ((l.drop off).take n).length := by rw [List.length_take, List.length_drop]; exact hi
  have e : ((l.drop off).take n)[i] = l[off + i] := by rw [List.getElem_take, List.getElem_drop]
  rw [h.cell (off + i) (by rw [bcells_size]; exact hi')]
  simp only [bcells, List.getElem_toArray, List.getElem_map]
  rw [← e]
  rfl
theorem fit_load {img : List UInt8} {n : Nat} (hl : img.length = 128 * n) : Fit (newD (loadTo img n n)) := by
  refine ⟨fun x hx => (by cases hx), fun s hs => ?_⟩
  have hs : s ∈ loadTo img n n := hs
  unfold loadTo at hs
  rw [Nat.sub_self, List.replicate_zero, List.append_nil, List.mem_map] at hs
  obtain ⟨k, hk, rfl⟩ := hs
  have := List.mem_range.1 hk
  unfold cutS
  rw [List.length_take, List.length_drop]
  omega
theorem aLoad (img : List UInt8) (n : Nat) (w : World) (hl : img.length = 128 * n) (h1 : 1 ≤ n) (h2 : n ≤ 8192) :
    Calls Try.prog 17 #[.string (bs img)] w fun e w' => ∃ b sb mb lo, e = .returned (.tuple #[.pointer (some ⟨b, 0, none⟩), .int .i64 0]) ∧ Alone w w' b sb mb lo (newD (loadTo img n n)) :=
  (dLoad img n w hl h1 h2).mono fun e w' ⟨b, sb, mb, lo, he, hD, z1, z2, z3, k⟩ => ⟨b, sb, mb, lo, he, hD, k, z3, z1, z2, (by have := DiskAt.lo_ hD; omega), fit_load hl⟩
/-- a sector of a disk in its image. -/
theorem stand_cut {d : DK} (hf : Fit d) {n : Nat} (hl : d.stand.length = n) (i : Nat) (hi : i < n) : (bs d.stand.flatten).extract (i * 128) (i * 128 + 128) = bs (d.stand.getD i []) := by
  have h1 := flat_cut d.stand hf.all i (by omega)
  have h2 := extract_cut d.stand.flatten i
  unfold cutS at h2
  rw [Nat.mul_comm i 128, h2, h1, List.getD_eq_getElem?_getD, List.getElem?_eq_getElem (by omega)]
  rfl
theorem stand_len {d : DK} (hf : Fit d) {n : Nat} (hl : d.stand.length = n) : d.stand.flatten.length = 128 * n := by
  have : ∀ l : List (List UInt8), (∀ s ∈ l, s.length = 128) → l.flatten.length = 128 * l.length := fun l => by
    induction l with
    | nil => intro _; rfl
    | cons a t ih =>
      intro h
      rw [List.flatten_cons, List.length_append, ih (fun s hs => h s (List.mem_cons_of_mem _ hs)), h a List.mem_cons_self, List.length_cons]
      omega
  rw [this _ hf.all, hl]
end Go.Proofs.Ytdnbddhjdokbfaa
