/- Blocks of the call's own: cell by cell; results that lie in such a block. -/
import Derived.Test.YtegbekeopgponaaRows
import Derived.Test.YtegbekeopgponaaG01
import Derived.Laws.Rows
import Derived.Laws.ResultCell
import Derived.Lib.ConvBytes
import Derived.Lib.SlBytesRow
namespace Go.Proofs.Ytegbekeopgponaa
open Go.RowKit
set_option linter.unusedVariables false
set_option linter.unusedSimpArgs false

theorem Own.c2 {w : World} {b : Nat} {x0 x1 : Value} {t : TypeId} (h : Own w b #[x0, x1] t) : w.cell? ⟨b, 0, none⟩ = some x0 ∧ w.cell? ⟨b, 1, none⟩ = some x1 :=
  ⟨h.cell 0 (by simp), h.cell 1 (by simp)⟩
theorem Own.z2 {w : World} {b : Nat} {x0 x1 : Value} {t : TypeId} (h : Own w b #[x0, x1] t) : w.frozen? ⟨b, 0, none⟩ = false ∧ w.frozen? ⟨b, 1, none⟩ = false :=
  ⟨h.free 0, h.free 1⟩
theorem Own.c4 {w : World} {b : Nat} {x0 x1 x2 x3 : Value} {t : TypeId} (h : Own w b #[x0, x1, x2, x3] t) : w.cell? ⟨b, 0, none⟩ = some x0 ∧ w.cell? ⟨b, 1, none⟩ = some x1 ∧ w.cell? ⟨b, 2, none⟩ = some x2 ∧ w.cell? ⟨b, 3, none⟩ = some x3 :=
  ⟨h.cell 0 (by simp), h.cell 1 (by simp), h.cell 2 (by simp), h.cell 3 (by simp)⟩
theorem Own.z4 {w : World} {b : Nat} {x0 x1 x2 x3 : Value} {t : TypeId} (h : Own w b #[x0, x1, x2, x3] t) : w.frozen? ⟨b, 0, none⟩ = false ∧ w.frozen? ⟨b, 1, none⟩ = false ∧ w.frozen? ⟨b, 2, none⟩ = false ∧ w.frozen? ⟨b, 3, none⟩ = false :=
  ⟨h.free 0, h.free 1, h.free 2, h.free 3⟩
theorem Own.c8 {w : World} {b : Nat} {x0 x1 x2 x3 x4 x5 x6 x7 : Value} {t : TypeId} (h : Own w b #[x0, x1, x2, x3, x4, x5, x6, x7] t) : w.cell? ⟨b, 0, none⟩ = some x0 ∧ w.cell? ⟨b, 1, none⟩ = some x1 ∧ w.cell? ⟨b, 2, none⟩ = some x2 ∧ w.cell? ⟨b, 3, none⟩ = some x3 ∧ w.cell? ⟨b, 4, none⟩ = some x4 ∧ w.cell? ⟨b, 5, none⟩ = some x5 ∧ w.cell? ⟨b, 6, none⟩ = some x6 ∧ w.cell? ⟨b, 7, none⟩ = some x7 :=
  ⟨h.cell 0 (by simp), h.cell 1 (by simp), h.cell 2 (by simp), h.cell 3 (by simp), h.cell 4 (by simp), h.cell 5 (by simp), h.cell 6 (by simp), h.cell 7 (by simp)⟩
theorem Own.z8 {w : World} {b : Nat} {x0 x1 x2 x3 x4 x5 x6 x7 : Value} {t : TypeId} (h : Own w b #[x0, x1, x2, x3, x4, x5, x6, x7] t) : w.frozen? ⟨b, 0, none⟩ = false ∧ w.frozen? ⟨b, 1, none⟩ = false ∧ w.frozen? ⟨b, 2, none⟩ = false ∧ w.frozen? ⟨b, 3, none⟩ = false ∧ w.frozen? ⟨b, 4, none⟩ = false ∧ w.frozen? ⟨b, 5, none⟩ = false ∧ w.frozen? ⟨b, 6, none⟩ = false ∧ w.frozen? ⟨b, 7, none⟩ = false :=
  ⟨h.free 0, h.free 1, h.free 2, h.free 3, h.free 4, h.free 5, h.free 6, h.free 7⟩
theorem own_four (w : World) (A B C D : Array Value) (s t u v : TypeId) : Own ((((w.alloc (.cells A s)).alloc (.cells B t)).alloc (.cells C u)).alloc (.cells D v)) w.heap.size A s ∧ Own ((((w.alloc (.cells A s)).alloc (.cells B t)).alloc (.cells C u)).alloc (.cells D v)) (w.heap.size + 1) B t ∧ Own ((((w.alloc (.cells A s)).alloc (.cells B t)).alloc (.cells C u)).alloc (.cells D v)) (w.heap.size + 1 + 1) C u ∧ Own ((((w.alloc (.cells A s)).alloc (.cells B t)).alloc (.cells C u)).alloc (.cells D v)) (w.heap.size + 1 + 1 + 1) D v := by
  obtain ⟨a, b, c⟩ := own_three w A B C s t u
  refine ⟨a.alloc _, b.alloc _, c.alloc _, ?_⟩
  have := Own.new (((w.alloc (.cells A s)).alloc (.cells B t)).alloc (.cells C u)) D v
  simpa only [World.size_alloc] using this
/-- a result that lies in a block of the call's own, and one in a slot. -/
theorem ret_row_tmp {P : Program} {fn : Func} {p u : Tmp} {ty : TypeId} (h : fn.results = #[.cell p ty, .tmp u]) {tmps : Array Value} {w : World} {g : Nat} {t : TypeId} {cs : Array Value} {d : TypeDesc} {x : Value}
    (hp : tmps.getD p undef = .pointer (some ⟨g, 0, none⟩)) (hx : tmps.getD u undef = x) (o : Own w g cs t) (hu : P.underlying ty = some d) (hd : (match d with | .struct _ | .array _ _ => true | _ => false) = true) (hi : (P.info? ty).map (·.size) = some cs.size) :
    (results fn tmps).run P w = .ok (.tuple #[.agg cs, x]) w := by
  rw [results_cell_tmp h, hp, hx]
  simp [asAddr, run_loadVar_row w g t ty cs (0, 0) d o hu hd hi]
theorem ret_row {P : Program} {fn : Func} {p : Tmp} {ty : TypeId} (h : fn.results = #[.cell p ty]) {tmps : Array Value} {w : World} {g : Nat} {t : TypeId} {cs : Array Value} {d : TypeDesc}
    (hp : tmps.getD p undef = .pointer (some ⟨g, 0, none⟩)) (o : Own w g cs t) (hu : P.underlying ty = some d) (hd : (match d with | .struct _ | .array _ _ => true | _ => false) = true) (hi : (P.info? ty).map (·.size) = some cs.size) :
    (results fn tmps).run P w = .ok (.agg cs) w := results_cell_row h tmps w g t cs (0, 0) d hp o hu hd hi
/-- all the cells of a block, written in turn. -/
theorem Own.set4 {w : World} {b : Nat} {x0 x1 x2 x3 : Value} {t : TypeId} (h : Own w b #[x0, x1, x2, x3] t) (y0 y1 y2 y3 : Value) :
    Own ((((w.setCell ⟨b, 0, none⟩ y0).setCell ⟨b, 1, none⟩ y1).setCell ⟨b, 2, none⟩ y2).setCell ⟨b, 3, none⟩ y3) b #[y0, y1, y2, y3] t := by
  have := (((h.set 0 y0).set 1 y1).set 2 y2).set 3 y3
  simpa using this
theorem Own.set8 {w : World} {b : Nat} {x0 x1 x2 x3 x4 x5 x6 x7 : Value} {t : TypeId} (h : Own w b #[x0, x1, x2, x3, x4, x5, x6, x7] t) (y0 y1 y2 y3 y4 y5 y6 y7 : Value) :
    Own ((((((((w.setCell ⟨b, 0, none⟩ y0).setCell ⟨b, 1, none⟩ y1).setCell ⟨b, 2, none⟩ y2).setCell ⟨b, 3, none⟩ y3).setCell ⟨b, 4, none⟩ y4).setCell ⟨b, 5, none⟩ y5).setCell ⟨b, 6, none⟩ y6).setCell ⟨b, 7, none⟩ y7) b #[y0, y1, y2, y3, y4, y5, y6, y7] t := by
  have := (((((((h.set 0 y0).set 1 y1).set 2 y2).set 3 y3).set 4 y4).set 5 y5).set 6 y6).set 7 y7
  simpa using this
/-- a whole row, written at once. -/
theorem Own.setRow {w : World} {b : Nat} {cs : Array Value} {t : TypeId} (h : Own w b cs t) (ds : Array Value) : Own (w.setRow b ds) b ds t := by
  have h' : w.heap[b]? = some (.cells cs t (0, 0)) := h
  exact setRow_heap w b cs ds t (0, 0) h'
theorem setRow_other (w : World) (b : Nat) (ds : Array Value) (k : Nat) (hk : k ≠ b) : (w.setRow b ds).heap[k]? = w.heap[k]? := by
  simp only [World.setRow, Array.getElem?_modify]
  rw [if_neg (fun e => hk e.symm)]
theorem Own.otherRow {w : World} {b g : Nat} {cs : Array Value} {t : TypeId} (h : Own w b cs t) (hb : b ≠ g) (ds : Array Value) : Own (w.setRow g ds) b cs t :=
  (setRow_other w g ds b hb).trans h
theorem Kept.setRow {S : List Nat} {a w : World} (h : Kept S a w) {g : Nat} (hp : g ∈ S ∨ a.heap.size ≤ g) (ds : Array Value) : Kept S a (w.setRow g ds) :=
  ⟨h.os, h.tape, h.output, by simpa using h.size, fun k hk hS => (setRow_other w g ds k (fun e => by
    rcases hp with hp | hp
    · exact hS (e ▸ hp)
    · omega)).trans (h.block k hk hS)⟩
end Go.Proofs.Ytegbekeopgponaa

/- Walks of layer 1 (pack): numbers as bytes. -/
namespace Go.Proofs.Ytegbekeopgponaa
open Go.RowKit
set_option linter.unusedVariables false
set_option linter.unusedSimpArgs false

/-- a number's bytes, so many, the lowest first. -/
def numL : Nat → Nat → List UInt8
  | _, 0 => []
  | n, k + 1 => UInt8.ofNat n :: numL (n / 256) k
theorem numL_len (n k : Nat) : (numL n k).length = k := by
  induction k generalizing n with
  | zero => rfl
  | succ k ih => simp [numL, ih]
theorem numL_snoc (n k : Nat) : numL n (k + 1) = numL n k ++ [UInt8.ofNat (n / 256 ^ k)] := by
  induction k generalizing n with
  | zero => simp [numL]
  | succ k ih =>
    rw [numL, ih (n / 256), numL, Nat.div_div_eq_div_mul, Nat.pow_succ, Nat.mul_comm 256]
    rfl

/-- the cells of bytes. -/
def bcells (l : List UInt8) : Array Value := (l.map fun b => Value.int .u8 (b.toNat : Int)).toArray
theorem bcells_size (l : List UInt8) : (bcells l).size = l.length := by simp [bcells]
theorem bcells_set (l : List UInt8) (i : Nat) (c : UInt8) : (bcells l).setIfInBounds i (.int .u8 (c.toNat : Int)) = bcells (l.set i c) := by
  apply Array.toList_inj.1
  simp [bcells]
theorem own_bytes {w : World} {b : Nat} {l : List UInt8} {t : TypeId} (h : Own w b (bcells l) t) : Lib.Bytes w b 0 (bs l) := by
  intro i hi
  rw [bs_size] at hi
  rw [Nat.zero_add, h.cell i (by rw [bcells_size]; exact hi)]
  simp only [bcells, List.getElem_toArray, List.getElem_map]
  rfl

theorem num_step {w : World} {b n k i : Nat} {t : TypeId} (ho : Own w b (bcells (numL n i ++ List.replicate (k - i) 0)) t) (hlt : i < k) :
    Own (w.setCell ⟨b, i, none⟩ (.int .u8 ((n : Int) / 2 ^ (8 * i) % 256))) b (bcells (numL n (i + 1) ++ List.replicate (k - (i + 1)) 0)) t := by
  have h := ho.set i (.int .u8 ((UInt8.ofNat (n / 256 ^ i)).toNat : Int))
  rw [bcells_set] at h
  have e1 : ((UInt8.ofNat (n / 256 ^ i)).toNat : Int) = (n : Int) / 2 ^ (8 * i) % 256 := by
    rw [UInt8.toNat_ofNat']
    have : (2 : Nat) ^ (8 * i) = 256 ^ i := by rw [Nat.pow_mul]
    rw [← this]
    simp
  have e2 : (numL n i ++ List.replicate (k - i) 0).set i (UInt8.ofNat (n / 256 ^ i)) = numL n (i + 1) ++ List.replicate (k - (i + 1)) 0 := by
    obtain ⟨d, hd⟩ : ∃ d, k - i = d + 1 := ⟨k - i - 1, by omega⟩
    have hd' : k - (i + 1) = d := by omega
    rw [hd, hd', List.replicate_succ, numL_snoc, List.set_append_right _ _ (by rw [numL_len]; exact Nat.le_refl _), numL_len, Nat.sub_self]
    simp
  rw [e1, e2] at h
  exact h

set_option maxRecDepth 100000 in
theorem packnum (n k : Nat) (w : World) (hn : n < 2 ^ 64) (hk : k ≤ 8) :
    Calls Try.prog 93 #[.int .u64 n, .int .i64 k] w fun e w' => e = .returned (.string (bs (numL n k))) ∧ Kept [] w w' := by
  have hi : (Try.prog.info? 5).map (fun i => (i.zero, i.size, i.bytes)) = some (some (.int .u8 0), 1, 1) := by kernel_rfl
  obtain ⟨i0, hi0, hz0, hz1, hz2⟩ := info_parts hi
  have hmk : ∀ w : World, (Instr.makeSlice 36 (.int .i64 k) (.int .i64 k)).run Try.prog w = .ok (.slice (some ⟨w.heap.size, 0, none⟩) k k) (w.alloc (.cells (bcells (List.replicate k 0)) 5)) := fun w => by
    have h := run_make (P := Try.prog) w 36 5 i0 (.int .u8 0) Try.underlying36 hi0 hz0 .i64 .i64 k k (by omega) (by omega) (by rw [hz2]; omega) (by omega)
    rw [h, hz1]
    congr 3
    apply Array.toList_inj.1
    simp [bcells, Value.cells, toList_madeCells_one]
  go_enter Try.func93, Try.ntmps93
  go_wp2_with fail
  go_loopw [11] (fun x wr => ∃ i : Nat, i ≤ k ∧ x = .int .i64 i ∧ Own wr w.heap.size (bcells (numL n i ++ List.replicate (k - i) 0)) 5 ∧ Kept [] w wr) (fun x _ => k - (intOf x).toNat)
  case atStart => exact ⟨0, Nat.zero_le _, rfl, Own.new _ _ _, (Kept.refl _ _).alloc _⟩
  case round =>
    obtain ⟨i, hik, rfl, ho, hkp⟩ := hrel
    by_cases hlt : i < k
    · have c0 : ∃ v, wr.cell? ⟨w.heap.size, i, none⟩ = some v := ⟨_, ho.cell i (by rw [bcells_size]; simp [numL_len]; omega)⟩
      obtain ⟨v, c0⟩ := c0
      have z0 := ho.free i
      go_wp2_with fail
      go_roundw
      case rel => exact ⟨i + 1, by omega, by go_num, num_step ho hlt, hkp.setCell (Or.inr (Nat.le_refl _)) _⟩
      case measure => simp [intOf]; omega
    · obtain rfl : i = k := by omega
      have hb := own_bytes ho
      have e : numL n i ++ List.replicate (i - i) 0 = numL n i := by rw [Nat.sub_self]; simp
      rw [e] at hb
      have hconv := Lib.run_convert_whole (P := Try.prog) wr 36 5 9 Try.underlying36 Try.underlying5 Try.underlying9 _ _ _ hb i
      rw [bs_size, numL_len] at hconv
      go_wp2_with fail
      go_ret
      exact ⟨rfl, hkp⟩


set_option maxRecDepth 100000 in
theorem packU8 (n : Nat) (w : World) (hn : n < 256) :
    Calls Try.prog 94 #[.int .u8 n] w fun e w' => e = .returned (.string (bs (numL n 1))) ∧ Kept [] w w' := by
  have h : ∀ w, Calls Try.prog 93 #[.int .u64 n, .int .i64 1] w fun e w' => e = .returned (.string (bs (numL n 1))) ∧ Kept [] w w' := fun w => packnum n 1 w (by omega) (by omega)
  go_enter Try.func94, Try.ntmps94
  go_wp2_with fail
  refine (h _).mono ?_; rintro e w1 ⟨rfl, hk⟩
  go_wp2_with fail
  go_ret
  exact ⟨rfl, hk⟩

set_option maxRecDepth 100000 in
theorem packU16 (n : Nat) (w : World) (hn : n < 65536) :
    Calls Try.prog 50 #[.int .u16 n] w fun e w' => e = .returned (.string (bs (numL n 2))) ∧ Kept [] w w' := by
  have h : ∀ w, Calls Try.prog 93 #[.int .u64 n, .int .i64 2] w fun e w' => e = .returned (.string (bs (numL n 2))) ∧ Kept [] w w' := fun w => packnum n 2 w (by omega) (by omega)
  go_enter Try.func50, Try.ntmps50
  go_wp2_with fail
  refine (h _).mono ?_; rintro e w1 ⟨rfl, hk⟩
  go_wp2_with fail
  go_ret
  exact ⟨rfl, hk⟩

set_option maxRecDepth 100000 in
theorem packU32 (n : Nat) (w : World) (hn : n < 4294967296) :
    Calls Try.prog 52 #[.int .u32 n] w fun e w' => e = .returned (.string (bs (numL n 4))) ∧ Kept [] w w' := by
  have h : ∀ w, Calls Try.prog 93 #[.int .u64 n, .int .i64 4] w fun e w' => e = .returned (.string (bs (numL n 4))) ∧ Kept [] w w' := fun w => packnum n 4 w (by omega) (by omega)
  go_enter Try.func52, Try.ntmps52
  go_wp2_with fail
  refine (h _).mono ?_; rintro e w1 ⟨rfl, hk⟩
  go_wp2_with fail
  go_ret
  exact ⟨rfl, hk⟩

/-- a text's bytes. -/
def textL (l : List UInt8) : List UInt8 := numL l.length 4 ++ l
theorem bs_append' (a : List UInt8) (s : ByteArray) : bs a ++ s = bs (a ++ s.data.toList) := by
  apply ByteArray.ext; apply Array.toList_inj.1; simp [bs, ByteArray.data_append]
theorem size_data (s : ByteArray) : s.data.toList.length = s.size := by simp

set_option maxRecDepth 100000 in
theorem packText (s : ByteArray) (w : World) (hs : s.size < 4294967296) :
    Calls Try.prog 95 #[.string s] w fun e w' => e = .returned (.string (bs (textL s.data.toList))) ∧ Kept [] w w' := by
  have h := fun w => packU32 s.size w (by omega)
  have hz : (bs (numL s.size 4)).size ≤ 4 := by rw [bs_size, numL_len]; omega
  have hfin := Lib.hid (bs_append' (numL s.size 4) s)
  go_enter Try.func95, Try.ntmps95
  go_wp2_with fail
  refine (h _).mono ?_; rintro e w1 ⟨rfl, hk⟩
  go_wp2_with fail
  go_ret
  refine ⟨?_, hk⟩
  show Ending.returned (Value.string (bs (numL s.size 4) ++ s)) = _
  rw [hfin.out, textL, size_data]

/-! ### the reader -/
/-- a reader stands at b: what is left, and the first error. -/
def RdAt (w : World) (b : Nat) (l : List UInt8) (e : Int) : Prop := Own w b #[.string (bs l), .int .i64 e] 116

set_option maxRecDepth 100000 in
theorem packRead (s : ByteArray) (w : World) :
    Calls Try.prog 38 #[.string s] w fun e w' => e = .returned (.pointer (some ⟨w.heap.size, 0, none⟩)) ∧ RdAt w' w.heap.size s.data.toList 0 ∧ Kept [] w w' := by
  go_enter Try.func38, Try.ntmps38
  go_wp2_with fail
  go_ret
  refine ⟨rfl, ?_, (Kept.refl _ _).alloc _⟩
  have h := Own.new w #[.string s, .int .i64 0] 116
  unfold RdAt
  rw [bs_of]
  exact h

/-- the first error stays. -/
def keepErr (e x : Int) : Int := if x = 0 then e else x
theorem keepErr_zero (e : Int) : keepErr e 0 = e := rfl
theorem keepErr_ne {e x : Int} (h : x ≠ 0) : keepErr e x = x := if_neg h

set_option maxRecDepth 100000 in
theorem packFail (b : Nat) (l : List UInt8) (x e : Int) (w : World) (hR : RdAt w b l x) :
    Calls Try.prog 83 #[.pointer (some ⟨b, 0, none⟩), .int .i64 e] w fun r w' => r = .returned (.tuple #[]) ∧ RdAt w' b [] (keepErr e x) ∧ Kept [b] w w' := by
  have c0 : w.cell? ⟨b, 0, none⟩ = some (.string (bs l)) := Own.cell hR 0 (by simp)
  have c1 : w.cell? ⟨b, 1, none⟩ = some (.int .i64 x) := Own.cell hR 1 (by simp)
  have z0 := Own.free hR 0
  have z1 := Own.free hR 1
  by_cases hx : x = 0
  · subst hx
    rw [keepErr_zero]
    go_enter Try.func83, Try.ntmps83
    go_wp2_with fail
    go_end0
    refine ⟨rfl, ?_, ((Kept.refl _ _).setCell (Or.inl (by simp)) _).setCell (Or.inl (by simp)) _⟩
    have h2 := (Own.set hR 0 (.string { data := #[] })).set 1 (.int .i64 e)
    unfold RdAt
    simpa [bs] using h2
  · have hd : (x == 0) = false := by simpa using hx
    rw [keepErr_ne hx]
    go_enter Try.func83, Try.ntmps83
    go_wp2_with fail
    go_end0
    refine ⟨rfl, ?_, (Kept.refl _ _).setCell (Or.inl (by simp)) _⟩
    have h2 := Own.set hR 0 (.string { data := #[] })
    unfold RdAt

    simpa [bs] using h2
end Go.Proofs.Ytegbekeopgponaa

/- Walks of layer 11 (super): needs; whether runs lie apart. -/
namespace Go.Proofs.Ytegbekeopgponaa
open Go.RowKit
set_option linter.unusedVariables false
set_option linter.unusedSimpArgs false

theorem bd64 {n : Int} (h : (Lit.int .i64 n).wf = true) : -9223372036854775808 ≤ n ∧ n ≤ 9223372036854775807 := by
  simp only [Lit.wf, Bool.and_eq_true, decide_eq_true_eq] at h
  exact h
/-- how many sectors so many bytes need. -/
def need (n : Int) : Int := if n < 1 then 0 else (n - 1) / 128 + 1

set_option maxRecDepth 100000 in
theorem pneed (n : Int) (w : World) (hn : (Lit.int .i64 n).wf = true) :
    Calls Try.prog 54 #[.int .i64 n] w fun e w' => e = .returned (.int .i64 (need n)) ∧ w = w' := by
  have hb := bd64 hn
  unfold need
  by_cases h : n < 1
  · rw [if_pos h]
    go_enter Try.func54, Try.ntmps54
    go_wp2_with fail
    go_ret
    exact ⟨rfl, rfl⟩
  · rw [if_neg h]
    go_enter Try.func54, Try.ntmps54
    go_wp2_with fail
    go_ret
    exact ⟨rfl, rfl⟩

/-- what lie says of runs. -/
def LieSays (f s : Int) (l : List (Int × Int)) (w : World) (e : Ending) (w' : World) : Prop := e = .returned (if lies f s l then .tuple #[.int .i64 (sumLen l), .bool true] else .tuple #[.int .i64 0, .bool false]) ∧ Kept [] w w'
theorem lieSays_no {f s : Int} {l : List (Int × Int)} {w w' : World} (h : lies f s l = false) (hk : Kept [] w w') : LieSays f s l w (.returned (.tuple #[.int .i64 0, .bool false])) w' := by
  refine ⟨?_, hk⟩; rw [h]; rfl
theorem lieSays_yes {f s : Int} {l : List (Int × Int)} {w w' : World} (h : lies f s l = true) (hk : Kept [] w w') : LieSays f s l w (.returned (.tuple #[.int .i64 (sumLen l), .bool true])) w' := by
  refine ⟨?_, hk⟩; rw [h]; rfl
theorem okRun_cases {f s : Int} {a : Int × Int} : (okRun f s a = false ∧ (a.1 < f ∨ (f ≤ a.1 ∧ a.2 < 1) ∨ (f ≤ a.1 ∧ 1 ≤ a.2 ∧ s < a.1) ∨ (f ≤ a.1 ∧ 1 ≤ a.2 ∧ a.1 ≤ s ∧ s - a.1 < a.2))) ∨ (okRun f s a = true ∧ f ≤ a.1 ∧ 1 ≤ a.2 ∧ a.1 ≤ s ∧ a.2 ≤ s - a.1) := by
  cases h : okRun f s a
  · refine Or.inl ⟨rfl, ?_⟩
    have h' : ¬ (f ≤ a.1 ∧ 1 ≤ a.2 ∧ a.1 ≤ s ∧ a.2 ≤ s - a.1) := fun hh => by rw [okRun_iff.2 hh] at h; cases h
    omega
  · exact Or.inr ⟨rfl, okRun_iff.1 h⟩
theorem apart_cases {a b : Int × Int} : (apart a b = false ∧ a.1 < b.1 + b.2 ∧ b.1 < a.1 + a.2) ∨ (apart a b = true ∧ (b.1 + b.2 ≤ a.1 ∨ (a.1 < b.1 + b.2 ∧ a.1 + a.2 ≤ b.1))) := by
  cases h : apart a b
  · refine Or.inl ⟨rfl, ?_⟩
    have h' : ¬ (a.1 + a.2 ≤ b.1 ∨ b.1 + b.2 ≤ a.1) := fun hh => by rw [apart_iff.2 hh] at h; cases h
    omega
  · have := apart_iff.1 h
    exact Or.inr ⟨rfl, by omega⟩

end Go.Proofs.Ytegbekeopgponaa

/- Walks of layer 11 (super): which superblocks may be. -/
namespace Go.Proofs.Ytegbekeopgponaa
open Go.RowKit
set_option linter.unusedVariables false
set_option linter.unusedSimpArgs false

/-- a superblock. -/
structure SB where
  seq : Nat
  sectors : Int
  journal : Int
  used : Int
  size : Int
  runs : List (Int × Int)
/-- its cells, where v is its slice of runs. -/
def SB.cells (s : SB) (v : Value) : Array Value := #[.int .u64 s.seq, .int .i64 s.sectors, .int .i64 s.journal, .int .i64 s.used, .int .i64 s.size, v]
/-- are its numbers such as may be? -/
def SB.numOk (s : SB) : Prop := 1 ≤ s.seq ∧ 4 ≤ s.sectors ∧ s.sectors ≤ 8192 ∧ 1 ≤ s.journal ∧ s.journal ≤ s.sectors - 2 ∧ 0 ≤ s.used ∧ s.used ≤ s.journal * 128 ∧ 0 ≤ s.size ∧ s.size ≤ 1048576 ∧ s.runs.length ≤ 16
/-- may it be? -/
def SB.may (s : SB) : Prop := s.numOk ∧ lies (2 + s.journal) s.sectors s.runs = true ∧ sumLen s.runs = need s.size
def SB.fits (s : SB) : Prop := s.seq < 18446744073709551616 ∧ (Lit.int .i64 s.sectors).wf = true ∧ (Lit.int .i64 s.journal).wf = true ∧ (Lit.int .i64 s.used).wf = true ∧ (Lit.int .i64 s.size).wf = true
theorem SB.num_cases (s : SB) : (¬ s.numOk ∧ ((s.seq < 1) ∨ (1 ≤ s.seq ∧ s.sectors < 4) ∨ (1 ≤ s.seq ∧ 4 ≤ s.sectors ∧ 8192 < s.sectors) ∨
    ((1 ≤ s.seq ∧ 4 ≤ s.sectors ∧ s.sectors ≤ 8192) ∧ ((s.journal < 1) ∨ (1 ≤ s.journal ∧ s.sectors - 2 < s.journal) ∨
    ((1 ≤ s.journal ∧ s.journal ≤ s.sectors - 2) ∧ ((s.used < 0) ∨ (0 ≤ s.used ∧ s.journal * 128 < s.used) ∨
    ((0 ≤ s.used ∧ s.used ≤ s.journal * 128) ∧ ((s.size < 0) ∨ (0 ≤ s.size ∧ 1048576 < s.size) ∨ (0 ≤ s.size ∧ s.size ≤ 1048576 ∧ 16 < s.runs.length))))))))) ∨
    (s.numOk ∧ 1 ≤ s.seq ∧ 4 ≤ s.sectors ∧ s.sectors ≤ 8192 ∧ 1 ≤ s.journal ∧ s.journal ≤ s.sectors - 2 ∧ 0 ≤ s.used ∧ s.used ≤ s.journal * 128 ∧ 0 ≤ s.size ∧ s.size ≤ 1048576 ∧ s.runs.length ≤ 16) := by
  by_cases h : s.numOk
  · exact Or.inr ⟨h, h⟩
  · refine Or.inl ⟨h, ?_⟩
    unfold SB.numOk at h
    omega
theorem need_bd {n : Int} (h0 : 0 ≤ n) (h : n ≤ 1048576) : 0 ≤ need n ∧ need n ≤ 8192 := by
  unfold need; split <;> omega

/-- what Check says of a superblock. -/
def CheckSays (s : SB) (w : World) (e : Ending) (w' : World) : Prop := ((s.may ∧ e = .returned (.int .i64 0)) ∨ (¬ s.may ∧ e = .returned (.int .i64 1))) ∧ Kept [] w w'

end Go.Proofs.Ytegbekeopgponaa
