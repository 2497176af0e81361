/- Walks of layer 1 (pack): a builder written; lists as bytes; texts filled up. -/
import Derived.Test.YtmghjdhmlaeibaaP3
import Derived.Test.YtmghjdhmlaeibaaShelf
import Derived.Lib.Builder
namespace Go.Proofs.Ytmghjdhmlaeibaa
open Go.RowKit
set_option linter.unusedVariables false
set_option linter.unusedSimpArgs false

theorem infoB : ∃ j, Try.prog.info? 85 = some j ∧ j.size = 2 := by
  have h : (Try.prog.info? 85).map (·.size) = some 2 := by kernel_rfl
  obtain ⟨j, hj, hjs⟩ := Option.map_eq_some_iff.1 h
  exact ⟨j, hj, hjs⟩

set_option maxRecDepth 100000 in
theorem bCheck_used (b : Nat) (w : World) (h0 : w.cell? ⟨b, 0, none⟩ = some (.pointer (some ⟨b, 0, none⟩))) :
    Calls Try.prog 78 #[.pointer (some ⟨b, 0, none⟩)] w fun e w' => e = .returned (.tuple #[]) ∧ w' = w := by
  obtain ⟨j, hj, _⟩ := infoB
  go_enter Try.func78, Try.ntmps78
  go_wp2
  rw [Lib.run_neq_ptr_same w _ Try.underlying82 hj]
  go_wp2
  go_end0
  exact ⟨rfl, rfl⟩

set_option maxRecDepth 100000 in
theorem bCheck_fresh (b : Nat) (w : World) (h0 : w.cell? ⟨b, 0, none⟩ = some (.pointer none)) (hsh : w.shape? b = some (85, 2)) (hfz : w.frozen? ⟨b, 0, none⟩ = false) :
    Calls Try.prog 78 #[.pointer (some ⟨b, 0, none⟩)] w fun e w' => e = .returned (.tuple #[]) ∧ w' = w.setCell ⟨b, 0, none⟩ (.pointer (some ⟨b, 0, none⟩)) := by
  obtain ⟨j, hj, hjs⟩ := infoB
  have hlies : liesAt Try.prog Try.prog.depth 85 (2 / Try.prog.cellsOf 85) 0 85 1 = true := by kernel_rfl
  go_enter Try.func78, Try.ntmps78
  go_wp2
  rw [Lib.run_to_unsafe w ⟨b, 0, none⟩ Try.underlying82 Try.underlying114 hj (by rw [hjs]; decide) hsh (Nat.zero_lt_succ 1)]
  simp only [Result.andThen]
  rw [Oper.upon_value]
  go_wp2
  rw [run_callFunc_extern Try.func92 (by kernel_rfl) (by kernel_rfl) (by kernel_rfl) (e := Extern.AbiNoEscape.same) (by kernel_rfl)]
  rw [Lib.run_noEscape]
  simp only [Result.andThen]
  rw [Oper.upon_value]
  go_wp2
  rw [Lib.run_from_unsafe w ⟨b, 0, none⟩ Try.underlying114 Try.underlying82 hj hsh hlies]
  simp only [Result.andThen]
  rw [Oper.upon_value]
  go_wp2
  go_end0
  exact ⟨rfl, rfl⟩

theorem bCheck (B b : Nat) (bs : List Value) (w : World) (h : Lib.IsBuilder 85 5 B b bs w) :
    Calls Try.prog 78 #[.pointer (some ⟨b, 0, none⟩)] w fun e w' => e = .returned (.tuple #[]) ∧ (Lib.BuilderAt 85 5 B b (.pointer (some ⟨b, 0, none⟩)) bs w' ∧ Below B w w') := by
  rcases h with h | h
  · refine (bCheck_fresh b w h.cell0 h.shape h.frozen0).mono ?_
    rintro e w' ⟨rfl, rfl⟩
    exact ⟨rfl, h.used _, (Below.refl B w).setCell (p := ⟨b, 0, none⟩) h.1 _⟩
  · refine (bCheck_used b w h.cell0).mono ?_
    rintro e w' ⟨rfl, rfl⟩
    exact ⟨rfl, h, Below.refl B _⟩

set_option maxRecDepth 100000 in
theorem bWrite (B b : Nat) (bs : List Value) (s : ByteArray) (w : World) (h : Lib.IsBuilder 85 5 B b bs w) (hlen : bs.length + s.size ≤ 140737488355328) (hBw : B ≤ w.heap.size) :
    Calls Try.prog 57 #[.pointer (some ⟨b, 0, none⟩), .string s] w fun e w' => e = .returned (.tuple #[.int .i64 s.size, .nilIface]) ∧ (Lib.BuilderAt 85 5 B b (.pointer (some ⟨b, 0, none⟩)) (bs ++ Lib.strCells s) w' ∧ Below B w w') := by
  have hib : (Try.prog.info? 5).map (fun i => (i.zero, i.size, i.bytes)) = some (some (.int .u8 0), 1, 1) := by kernel_rfl
  obtain ⟨i0, hi, hz0, hz1, hz2⟩ := info_parts hib
  go_enter Try.func57, Try.ntmps57
  go_wp2_with fail
  refine (bCheck B b bs _ h).mono ?_
  rintro e w1 ⟨rfl, h1, hb1⟩
  obtain ⟨hB, v, hbk, hown, hne⟩ := h1
  have c0 : w1.cell? ⟨b, 0, none⟩ = some (.pointer (some ⟨b, 0, none⟩)) := by rw [Lib.cell_of_heap hbk]; rfl
  have c1 : w1.cell? ⟨b, 1, none⟩ = some v := by rw [Lib.cell_of_heap hbk]; rfl
  go_wp2_with (at_builtin; refine Lib.wpList_append_own_string _ rfl _ _ 83 9 rfl B 5 i0 Try.underlying83 Try.underlying9 hi hz0 hz1 hz2 _ _ _ rfl hown s rfl ?c3 ?c4 ?c5 ?_)
  case c3 => unfold maxLen; omega
  case c4 => omega
  case c5 => have := hb1.size; omega
  intro v' w2 hown' hgrow _
  have hlt : b < w1.heap.size := lt_of_block hbk
  have hb2 : w2.heap[b]? = some (.cells #[.pointer (some ⟨b, 0, none⟩), v] 85 (0, 0)) := by
    rw [hgrow.block b hlt (fun e => hne e.symm)]
    exact hbk
  have d0 : w2.cell? ⟨b, 0, none⟩ = some (.pointer (some ⟨b, 0, none⟩)) := by rw [Lib.cell_of_heap hb2]; rfl
  have d1 : w2.cell? ⟨b, 1, none⟩ = some v := by rw [Lib.cell_of_heap hb2]; rfl
  have f1 : w2.frozen? ⟨b, 1, none⟩ = false := Lib.frozen_of_heap hb2 1
  obtain ⟨ao, n', cap, rfl⟩ : ∃ ao n' cap, v' = .slice ao n' cap := by
    rcases hown'.2 with ⟨hv, _⟩ | ⟨g, cap, cur, hv, _⟩
    · exact ⟨_, _, _, hv⟩
    · exact ⟨_, _, _, hv⟩
  go_wp2
  go_ret2
  refine ⟨rfl, ?_, ?_⟩
  · exact Lib.BuilderAt.put (T := 85) (e := 5) hB hb2 (bs' := bs ++ Lib.strCells s) (by simpa [Lib.strCells_length] using hown') (by decide)
  · exact (hb1.grown hgrow (by have := hb1.size; omega) (fun k hk => (hown.lt k hk).1)).setCell (p := ⟨b, 1, none⟩) hB _

/-- a list's bytes. -/
def listL (l : List (List UInt8)) : List UInt8 := numL l.length 4 ++ (l.map textL).flatten
/-- the builder holds these bytes. -/
def BuiltAt (w : World) (B b : Nat) (l : List UInt8) : Prop := Lib.IsBuilder 85 5 B b (Lib.byteCells l) w
theorem strCells_bs (l : List UInt8) : Lib.strCells (bs l) = Lib.byteCells l := rfl
theorem byteCells_append (a b : List UInt8) : Lib.byteCells a ++ Lib.byteCells b = Lib.byteCells (a ++ b) := by simp [Lib.byteCells]

theorem built_write (B b : Nat) (l m : List UInt8) (w : World) (h : BuiltAt w B b l) (hlen : l.length + m.length ≤ 140737488355328) (hBw : B ≤ w.heap.size) :
    Calls Try.prog 57 #[.pointer (some ⟨b, 0, none⟩), .string (bs m)] w fun e w' => e = .returned (.tuple #[.int .i64 (bs m).size, .nilIface]) ∧ BuiltAt w' B b (l ++ m) ∧ Below B w w' :=
  (bWrite B b (Lib.byteCells l) (bs m) w h (by rw [Lib.byteCells_length, bs_size]; exact hlen) hBw).mono fun e w' ⟨he, h1, h2⟩ => ⟨he, by
    rw [strCells_bs, byteCells_append] at h1; exact Or.inr h1, h2⟩

theorem built_string (B b : Nat) (l : List UInt8) (w : World) (h : BuiltAt w B b l) (hBw : B ≤ w.heap.size) :
    Calls Try.prog 58 #[.pointer (some ⟨b, 0, none⟩)] w fun e w' => e = .returned (.string (bs l)) ∧ Below B w w' := Try.Builder_String_any B b l w h hBw

theorem Kept.then_below {a w w' : World} (h : Kept [] a w) (hb : Below a.heap.size w w') : Kept [] a w' :=
  ⟨hb.os.trans h.os, hb.tape.trans h.tape, hb.output.trans h.output, Nat.le_trans h.size hb.size, fun k hk _ => (hb.block k hk).trans (h.block k hk (by simp))⟩
theorem built_kept {B b : Nat} {l : List UInt8} {w w' : World} (h : BuiltAt w B b l) (k : Kept [] w w') : BuiltAt w' B b l := by
  have key : ∀ p, Lib.BuilderAt 85 5 B b p (Lib.byteCells l) w → Lib.BuilderAt 85 5 B b p (Lib.byteCells l) w' := by
    rintro p ⟨h1, v, h2, h3, h4⟩
    exact ⟨h1, v, (k.block b (lt_of_block h2) (by simp)).trans h2, ownsRow_kept h3 k (by simp), h4⟩
  rcases h with h | h
  · exact Or.inl (key _ h)
  · exact Or.inr (key _ h)
theorem built_new {B b : Nat} {w : World} (hB : B ≤ b) (h : Own w b #[.pointer none, .slice none 0 0] 85) : BuiltAt w B b [] :=
  Or.inl ⟨hB, _, h, World.ownsRow_nil _ _ _ _, by simp [Value.ownBlock]⟩

/-- the bytes of the first k texts. -/
def someL (l : List ByteArray) (k : Nat) : List UInt8 := numL l.length 4 ++ ((l.take k).map fun s => textL s.data.toList).flatten
theorem someL_succ (l : List ByteArray) (k : Nat) (h : k < l.length) : someL l (k + 1) = someL l k ++ textL l[k].data.toList := by
  unfold someL
  rw [List.take_succ_eq_append_getElem h, List.map_append, List.flatten_append, ← List.append_assoc]
  simp only [List.map_cons, List.map_nil, List.flatten_cons, List.flatten_nil, List.append_nil]
/-- how long a list's bytes are at most. -/
def lenL (l : List ByteArray) : Nat := 4 + (l.map fun s => 4 + s.size).sum
theorem textL_len (l : List UInt8) : (textL l).length = 4 + l.length := by simp [textL, numL_len]
theorem sum_take_le (l : List Nat) (k : Nat) : (l.take k).sum ≤ l.sum := by
  induction l generalizing k with
  | nil => simp
  | cons a l ih => cases k with
    | zero => simp
    | succ k => simp; exact ih k
theorem someL_len (l : List ByteArray) (k : Nat) : (someL l k).length ≤ lenL l := by
  unfold someL lenL
  rw [List.length_append, numL_len, List.length_flatten, List.map_map]
  have : ((List.length ∘ fun s : ByteArray => textL s.data.toList)) = fun s => 4 + s.size := by
    funext s; simp [textL_len]
  rw [this, List.map_take]
  have := sum_take_le (l.map fun s => 4 + s.size) k
  omega

theorem StrsIn.cellAt {w : World} {b off c lo hi : Nat} {l : List ByteArray} (h : StrsIn w (.slice (some ⟨b, off, none⟩) l.length c) l lo hi) (i : Nat) (hi : i < l.length) : w.cell? ⟨b, off + i, none⟩ = some (.string l[i]) := by
  rcases h with ⟨rfl, _⟩ | ⟨b', off', c', e, h2, _⟩
  · simp at hi
  · simp at e
    obtain ⟨⟨rfl, rfl⟩, _⟩ := e
    exact h2 i hi

set_option maxRecDepth 100000 in
theorem packList (v : Value) (l : List ByteArray) (lo hi : Nat) (w : World) (h : StrsIn w v l lo hi) (hl : l.length ≤ 1000000) (hs : ∀ s ∈ l, s.size < 4294967296) (hlen : lenL l ≤ 140737488355328) :
    Calls Try.prog 16 #[v] w fun e w' => e = .returned (.string (bs (listL (l.map fun s => s.data.toList)))) ∧ Kept [] w w' := by
  obtain ⟨a, c, rfl⟩ : ∃ a c, v = .slice a l.length c := by
    rcases h with ⟨rfl, a, c, rfl⟩ | ⟨b, off, c, rfl, _⟩
    · exact ⟨a, c, rfl⟩
    · exact ⟨_, c, rfl⟩
  have hn := fun w => packU32 l.length w (by omega)
  have HS := Lib.hid h
  clear h
  go_enter Try.func16, Try.ntmps16
  go_wp2_with fail
  refine (hn _).mono ?_; rintro e w1 ⟨rfl, hk1⟩
  go_wp2_with fail
  have hB1 : BuiltAt w1 w.heap.size w.heap.size [] := built_new (Nat.le_refl _) (hk1.own (Own.new w _ _) (by simp))
  have hkw : Kept [] w w1 := ((Kept.refl _ _).alloc _).trans hk1
  refine (built_write _ _ [] (numL l.length 4) w1 hB1 (by simp [numL_len]) hkw.size).mono ?_; rintro e w2 ⟨rfl, hB2, hb2⟩
  have hkw2 := hkw.then_below hb2
  have hB3 : BuiltAt w2 w.heap.size w.heap.size (someL l 0) := by unfold someL; simpa using hB2
  clear hB1 hB2 hkw hb2 hk1
  go_wp2_with fail
  go_loopw [13] (fun i wr => ∃ k : Nat, k ≤ l.length ∧ i = .int .i64 k ∧ BuiltAt wr w.heap.size w.heap.size (someL l k) ∧ Kept [] w wr) (fun i _ => l.length - (intOf i).toNat)
  case atStart => exact ⟨0, Nat.zero_le _, rfl, hB3, hkw2⟩
  case round =>
    obtain ⟨k, hk, rfl, hB, hkr⟩ := hrel
    by_cases hlt : k < l.length
    · obtain ⟨b, off, rfl, hcell⟩ : ∃ b off, a = some ⟨b, off, none⟩ ∧ wr.cell? ⟨b, off + k, none⟩ = some (.string l[k]) := by
        rcases HS.out with ⟨rfl, _⟩ | ⟨b, off, c', e, h2, h3, h4, h5, _⟩
        · simp at hlt
        · simp at e
          exact ⟨b, off, e.1, by rw [hkr.cell (by show b < _; omega) (by simp)]; exact h2 k hlt⟩
      have ht := fun w => packText l[k] w (hs _ (List.getElem_mem hlt))
      have hsz := hs _ (List.getElem_mem hlt)
      have hlk := someL_len l (k + 1)
      have hsu := someL_succ l k hlt
      rw [hsu, List.length_append] at hlk
      have HU := Lib.hid hsu
      clear hsu
      go_wp2_with fail
      refine (ht _).mono ?_; rintro e w3 ⟨rfl, hk3⟩
      have hB4 := built_kept hB hk3
      have hkr3 := hkr.trans hk3
      clear hB hkr hk3 hcell
      go_wp2_with fail
      refine (built_write _ _ (someL l k) (textL l[k].data.toList) w3 hB4 (by omega) hkr3.size).mono ?_; rintro e w4 ⟨rfl, hB5, hb5⟩
      have hkr4 := hkr3.then_below hb5
      rw [← HU.out] at hB5
      clear hb5 hkr3 hB4
      go_wp2_with fail
      go_roundw
      case rel => exact ⟨k + 1, by omega, by go_num, hB5, hkr4⟩
      case measure => simp [intOf]; omega
    · have hkl : k = l.length := by omega
      have hfin : someL l k = listL (l.map fun s => s.data.toList) := by
        rw [hkl]; unfold someL listL
        rw [List.take_length, List.length_map, List.map_map]; rfl
      rw [hfin] at hB
      clear hkl hfin
      go_wp2_with fail
      refine (built_string _ _ _ wr hB hkr.size).mono ?_; rintro e w3 ⟨rfl, hb3⟩
      go_wp2_with fail
      go_ret
      exact ⟨rfl, hkr.then_below hb3⟩

/-- a text, filled up with noughts. -/
def fillL (l : List UInt8) (n : Int) : List UInt8 := l ++ List.replicate (n - l.length).toNat 0
theorem repeat_zero (k : Nat) : Lib.repeatL [0] k = List.replicate k 0 := by
  induction k with
  | zero => rfl
  | succ k ih => rw [Lib.repeatL, ih]; rfl

set_option maxRecDepth 100000 in
theorem packFill (s : ByteArray) (n : Int) (w : World) (hs : s.size ≤ 1000000) (hn : n ≤ 1000000) :
    Calls Try.prog 20 #[.string s, .int .i64 n] w fun e w' => e = .returned (.string (bs (fillL s.data.toList n))) ∧ Kept [] w w' := by
  by_cases hle : n ≤ s.size
  · have e : fillL s.data.toList n = s.data.toList := by
      unfold fillL; rw [size_data, show (n - (s.size : Int)).toNat = 0 from by omega]; simp
    rw [e, bs_of]
    clear e
    go_enter Try.func20, Try.ntmps20
    go_wp2_with fail
    go_ret
    exact ⟨rfl, Kept.refl _ _⟩
  · obtain ⟨d, hd⟩ : ∃ d : Nat, n - (s.size : Int) = d := ⟨(n - s.size).toNat, by omega⟩
    have e : fillL s.data.toList n = s.data.toList ++ List.replicate d 0 := by
      unfold fillL; rw [size_data, show (n - (s.size : Int)).toNat = d from by omega]
    have hrep : ∀ w, Calls Try.prog 59 #[.string { data := #[0] }, .int .i64 d] w fun e w' => e = .returned (.string (bs (List.replicate d 0))) ∧ Below w.heap.size w w' := fun w => by
      have h := Try.strings_Repeat { data := #[0] } d w (by omega) (by show 1 * d ≤ _; omega)
      have e : (⟨(Lib.repeatL (ByteArray.mk #[0]).data.toList d).toArray⟩ : ByteArray) = bs (List.replicate d 0) := by
        show bs (Lib.repeatL [0] d) = _
        rw [repeat_zero]
      rw [e] at h
      exact h
    have hz : (bs (List.replicate d 0)).size ≤ 1000000 := by rw [bs_size]; simp; omega
    have hfin : Hid (s ++ bs (List.replicate d 0) = bs (s.data.toList ++ List.replicate d 0)) := by
      show s ++ bs (List.replicate d 0) = _
      rw [← bs_append, bs_of]
    rw [e]
    have hlt : (s.size : Int) < n := by omega
    clear e hle
    go_enter Try.func20, Try.ntmps20
    go_wp2_with fail
    refine (hrep _).mono ?_; rintro e w1 ⟨rfl, hb⟩
    go_wp2_with fail
    go_ret
    exact ⟨by show Ending.returned (Value.string (s ++ bs (List.replicate d 0))) = _; rw [hfin.out], Kept.of_below hb⟩
end Go.Proofs.Ytmghjdhmlaeibaa
