/- A row of one-cell elements in a block of the call's own, element by element. -/
import Derived.Test.YtegbekeopgponaaShelf
import Derived.Test.YtegbekeopgponaaG01
import Derived.Test.YtegbekeopgponaaG09
import Derived.Laws.MakeOwn
import Derived.Maps.AppendAt
import Derived.Deep.AppendLies
import Derived.RegionTactic
import Derived.OwnWalk
import Derived.Lib.Builder
namespace Go.Proofs.Ytegbekeopgponaa
open Go.RowKit
set_option linter.unusedVariables false
set_option linter.unusedSimpArgs false

/-- block g holds elements of type t; its first n cells are those of f. -/
def Rw (w : World) (g : Nat) (t : TypeId) (n : Nat) (f : Nat → Value) : Prop := ∃ cs, Own w g cs t ∧ ∀ i, i < n → cs[i]? = some (f i)
section
variable {w w' : World} {g n : Nat} {t : TypeId} {f : Nat → Value}
theorem Rw.lt (h : Rw w g t n f) : g < w.heap.size := by obtain ⟨cs, o, _⟩ := h; exact o.lt
theorem Rw.cell (h : Rw w g t n f) (i : Nat) (hi : i < n) : w.cell? ⟨g, i, none⟩ = some (f i) := by
  obtain ⟨cs, o, hc⟩ := h
  have h1 := hc i hi
  obtain ⟨hlt, e⟩ := Array.getElem?_eq_some_iff.1 h1
  rw [o.cell i hlt, e]
theorem Rw.free (h : Rw w g t n f) (i : Nat) : w.frozen? ⟨g, i, none⟩ = false := by obtain ⟨cs, o, _⟩ := h; exact o.free i
theorem Rw.drew (h : Rw w g t n f) : Rw w.drew g t n f := h
theorem Rw.drewN (h : Rw w g t n f) (k : Nat) : Rw (w.drewN k) g t n f := h
theorem Rw.alloc (h : Rw w g t n f) (o : Obj) : Rw (w.alloc o) g t n f := by obtain ⟨cs, ho, hc⟩ := h; exact ⟨cs, ho.alloc o, hc⟩
theorem Rw.kept {S : List Nat} (h : Rw w g t n f) (k : Kept S w w') (hg : g ∉ S) : Rw w' g t n f := by obtain ⟨cs, ho, hc⟩ := h; exact ⟨cs, k.own ho hg, hc⟩
theorem Rw.other (h : Rw w g t n f) {p : Addr} (hp : g ≠ p.block) (u : Value) : Rw (w.setCell p u) g t n f := by obtain ⟨cs, ho, hc⟩ := h; exact ⟨cs, ho.other hp u, hc⟩
theorem Rw.congr (h : Rw w g t n f) {f' : Nat → Value} (e : ∀ i, i < n → f i = f' i) : Rw w g t n f' := by
  obtain ⟨cs, ho, hc⟩ := h; exact ⟨cs, ho, fun i hi => by rw [hc i hi, e i hi]⟩
theorem Rw.set (h : Rw w g t n f) (i : Nat) (hi : i < n) (u : Value) (f' : Nat → Value) (e1 : f' i = u) (e2 : ∀ j, j < n → j ≠ i → f' j = f j) : Rw (w.setCell ⟨g, i, none⟩ u) g t n f' := by
  obtain ⟨cs, ho, hc⟩ := h
  refine ⟨_, ho.set i u, fun j hj => ?_⟩
  obtain ⟨hlt, _⟩ := Array.getElem?_eq_some_iff.1 (hc i hi)
  by_cases hji : i = j
  · subst hji; rw [Array.getElem?_setIfInBounds_self_of_lt hlt, e1]
  · rw [Array.getElem?_setIfInBounds_ne hji, hc j hj, e2 j hj (fun e => hji e.symm)]
theorem Rw.le (h : Rw w g t n f) {m : Nat} (hm : m ≤ n) : Rw w g t m f := by
  obtain ⟨cs, ho, hc⟩ := h; exact ⟨cs, ho, fun i hi => hc i (by omega)⟩
end
theorem Rw.made (w : World) (t : TypeId) (n : Nat) (z : Value) : Rw (w.alloc (.cells (Array.replicate n z) t)) w.heap.size t n (fun _ => z) :=
  ⟨_, Own.new _ _ _, fun i hi => by simp [hi]⟩
/-- a row made, of one-cell elements. -/
theorem run_make_rep {P : Program} (t e : TypeId) (i : TypeInfo) (z : Value) (ht : P.underlying t = some (.slice e)) (hi : P.info? e = some i) (hz : i.zero = some z) (hsize : i.size = 1) (hzc : z.cells = #[z])
    (n : Nat) (hb : i.bytes * n ≤ 281474976710656) (hn : n ≤ 9223372036854775807) (w : World) :
    (Instr.makeSlice t (.int .i64 n) (.int .i64 n)).run P w = .ok (.slice (some ⟨w.heap.size, 0, none⟩) n n) (w.alloc (.cells (Array.replicate n z) e)) := by
  have hb' : (i.bytes : Int) * (n : Int) ≤ 281474976710656 := by
    have h : ((i.bytes * n : Nat) : Int) ≤ 281474976710656 := by omega
    rwa [Int.natCast_mul] at h
  have h := run_make (P := P) w t e i z ht hi hz .i64 .i64 n n (by omega) (by omega) hb' (by omega)
  rw [h, hsize, hzc]
  simp only [Int.toNat_natCast, Nat.mul_one]
  congr 3
  apply Array.toList_inj.1
  rw [toList_madeCells_one]
  simp
/-- append, by its run. -/
theorem wp_append_run {P : Program} {w : World} {o : Oper} {a : Act} {K : Act → World → Prop} {Q : Exit → Act → World → Prop} (s x : Operand) (ts : Array TypeId)
    (ho : o.op = .call { callee := .builtin .append, args := #[s, x], argTypes := ts }) (v u : Value) (hs : a.eval s = v) (hx : a.eval x = u) (v' : Value) (w' : World)
    (hrun : (Builtin.append_ ts o.type #[v, u]).run P w = .ok v' w') (h : K (a.put o.dst v') w') : o.wp P a w K Q := by
  unfold Oper.wp execOp
  simp only [ho, resolve, invoke, builtin, Sem.run_bind, Sem.run_pure, Result.andThen_ok, List.map_toArray, List.map_cons, List.map_nil, hs, hx, hrun]
  exact h
theorem wpList_append_run {P : Program} {w : World} {ops : Array Oper} {rest : List Oper} {o : Oper} {a : Act} {Q : Exit → Act → World → Prop} (hgd : o.guard = none) (s x : Operand) (ts : Array TypeId)
    (ho : o.op = .call { callee := .builtin .append, args := #[s, x], argTypes := ts }) (v u : Value) (hs : a.eval s = v) (hx : a.eval x = u) (v' : Value) (w' : World)
    (hrun : (Builtin.append_ ts o.type #[v, u]).run P w = .ok v' w') (h : wpList P ops Q rest (a.put o.dst v') w') : wpList P ops Q (o :: rest) a w :=
  wpList_plain hgd fun _ hK => wp_append_run s x ts ho v u hs hx v' w' hrun (hK _ _ h)
end Go.Proofs.Ytegbekeopgponaa

/- Walks of layer 9 (disk): a new disk. -/
namespace Go.Proofs.Ytegbekeopgponaa
open Go.RowKit Go.Maps
set_option linter.unusedVariables false
set_option linter.unusedSimpArgs false

theorem rep_zero (k : Nat) : Lib.repeatL [0] k = List.replicate k 0 := by
  induction k with
  | zero => rfl
  | succ k ih => rw [Lib.repeatL, ih]; rfl
/-- a sector of noughts. -/
def zeroS : List UInt8 := List.replicate 128 0
theorem dRep (w : World) : Calls Try.prog 80 #[.string { data := #[0] }, .int .i64 128] w fun e w' => e = .returned (.string (bs zeroS)) ∧ Kept [] w w' := by
  have h := Try.strings_Repeat { data := #[0] } 128 w (by omega) (by show 1 * 128 ≤ _; omega)
  have e : (⟨(Lib.repeatL (ByteArray.mk #[0]).data.toList 128).toArray⟩ : ByteArray) = bs zeroS := by
    show bs (Lib.repeatL [0] 128) = _
    rw [rep_zero]; rfl
  rw [e] at h
  exact h.mono fun e w' hh => ⟨hh.1, Kept.of_below hh.2⟩
def newD (st : List (List UInt8)) : DK := ⟨st, [], -1, 0, false⟩
theorem dMade (sb : Nat) (st : List (List UInt8)) (w : World) (o : Own w sb (scells st) 9) (h1 : 1 ≤ st.length) (h2 : st.length ≤ 8192) :
    Calls Try.prog 81 #[.slice (some ⟨sb, 0, none⟩) st.length st.length] w fun e w' => e = .returned (.pointer (some ⟨w.heap.size + 1, 0, none⟩)) ∧ DiskAt w' (w.heap.size + 1) sb w.heap.size (w.heap.size + 2) (newD st) ∧ Kept [] w w' := by
  have hmm := @run_makeMap Try.prog
  have hlt := o.lt
  have hm := (MapAt.made w).alloc (.cells #[.slice (some ⟨sb, 0, none⟩) st.length st.length, .slice none 0 0, .map (some w.heap.size), .int .i64 (-1), .int .i64 0, .bool false] 108)
  have ob := Own.new (w.alloc (.map #[] 0)) #[.slice (some ⟨sb, 0, none⟩) st.length st.length, .slice none 0 0, .map (some w.heap.size), .int .i64 (-1), .int .i64 0, .bool false] 108
  rw [World.size_alloc] at ob
  have os := (o.alloc (.map #[] 0)).alloc (.cells #[.slice (some ⟨sb, 0, none⟩) st.length st.length, .slice none 0 0, .map (some w.heap.size), .int .i64 (-1), .int .i64 0, .bool false] 108)
  go_enter Try.func81, Try.ntmps81
  go_wp2_with fail
  go_ret
  refine ⟨rfl, ⟨.slice none 0 0, 0, ob, os, World.ownsRow_nil _ _ _ _, hm, Nat.le_refl _, ?_, ?_, ?_, ?_, ?_, h1, h2, ?_, ?_, ?_⟩, ((Kept.refl _ _).alloc _).alloc _⟩
  · omega
  · omega
  · omega
  · omega
  · simp
  · show (-1 : Int) ≤ -1; omega
  · show (-1 : Int) ≤ 9223372036854775807; omega
  · exact Nat.zero_le _
/-- the first k sectors are noughts. -/
def fillTo (n k : Nat) : List (List UInt8) := List.replicate k zeroS ++ List.replicate (n - k) []
theorem fillTo_len (n k : Nat) (h : k ≤ n) : (fillTo n k).length = n := by unfold fillTo; rw [List.length_append, List.length_replicate, List.length_replicate]; omega
theorem fillTo_succ (n k : Nat) (h : k < n) : (fillTo n k).set k zeroS = fillTo n (k + 1) := by
  unfold fillTo
  rw [List.set_append_right _ _ (by simp)]
  have e : n - k = (n - (k + 1)) + 1 := by omega
  rw [e, List.replicate_succ, List.length_replicate, Nat.sub_self, List.set_cons_zero, List.replicate_succ']
  simp
theorem infoStr : ∃ i, Try.prog.info? 9 = some i ∧ i.zero = some (.string ⟨#[]⟩) ∧ i.size = 1 ∧ i.bytes = 16 := by
  have hi : (Try.prog.info? 9).map (fun i => (i.zero, i.size, i.bytes)) = some (some (.string ⟨#[]⟩), 1, 16) := by kernel_rfl
  obtain ⟨i0, hi0, hz0, hz1, hz2⟩ := info_parts hi
  exact ⟨i0, hi0, hz0, hz1, hz2⟩
theorem run_make_strs (n : Nat) (hn : n ≤ 8192) (w : World) : (Instr.makeSlice 62 (.int .i64 n) (.int .i64 n)).run Try.prog w = .ok (.slice (some ⟨w.heap.size, 0, none⟩) n n) (w.alloc (.cells (scells (fillTo n 0)) 9)) := by
  obtain ⟨i0, h1, h2, h3, h4⟩ := infoStr
  rw [run_make_rep (P := Try.prog) 62 9 i0 (.string ⟨#[]⟩) Try.underlying62 h1 h2 h3 rfl n (by rw [h4]; omega) (by omega) w]
  have e : Array.replicate n (Value.string ⟨#[]⟩) = scells (fillTo n 0) := by
    unfold scells fillTo
    apply Array.toList_inj.1
    simp [bs]
  rw [e]
set_option maxRecDepth 100000 in
set_option maxHeartbeats 1000000 in
theorem dNew (n : Nat) (w : World) (h1 : 1 ≤ n) (h2 : n ≤ 8192) :
    Calls Try.prog 37 #[.int .i64 n] w fun e w' => ∃ b sb mb lo, e = .returned (.tuple #[.pointer (some ⟨b, 0, none⟩), .int .i64 0]) ∧ DiskAt w' b sb mb lo (newD (List.replicate n zeroS)) ∧ w.heap.size ≤ sb ∧ w.heap.size ≤ mb ∧ w.heap.size ≤ b ∧ Kept [] w w' := by
  have hmk := run_make_strs n h2
  have o := Own.new w (scells (fillTo n 0)) 9
  have i1 : (1 : Int) ≤ n := by omega
  have i2 : (n : Int) ≤ 8192 := by omega
  go_enter Try.func37, Try.ntmps37
  go_wp2_with fail
  go_loopw [16] (fun i wr => ∃ k : Nat, k ≤ n ∧ i = .int .i64 k ∧ Own wr w.heap.size (scells (fillTo n k)) 9 ∧ Kept [] w wr) (fun i _ => n - (intOf i).toNat)
  case atStart => exact ⟨0, by omega, rfl, o, (Kept.refl _ _).alloc _⟩
  case round =>
    obtain ⟨k, hk, rfl, os, hK⟩ := hrel
    by_cases hlt : k < n
    · have HLT := Lib.hid hlt
      go_wp2_with fail
      refine (dRep _).mono ?_; rintro e w1 ⟨rfl, k1⟩
      have os1 := k1.own os (by simp)
      have hsize : k < (scells (fillTo n k)).size := by simp [scells, fillTo_len n k hk]; exact hlt
      obtain ⟨v0, s0⟩ : ∃ v0, w1.cell? ⟨w.heap.size, k, none⟩ = some v0 := ⟨_, os1.cell k hsize⟩
      have zs := os1.free k
      have hfin : Own (w1.setCell ⟨w.heap.size, k, none⟩ (.string (bs zeroS))) w.heap.size (scells (fillTo n (k + 1))) 9 := by
        rw [← fillTo_succ n k hlt, ← scells_set]
        exact os1.set k _
      have hkf := (hK.trans k1).setCell (p := ⟨w.heap.size, k, none⟩) (Or.inr (Nat.le_refl _)) (.string (bs zeroS))
      have HF := Lib.hid hfin
      clear hfin os os1 hsize o
      generalize zeroS = Z at *
      go_wp2_with fail
      go_roundw
      case rel => exact ⟨k + 1, HLT.out, by go_num, HF.out, hkf⟩
      case measure => (have hh := HLT.out; simp [intOf]; omega)
    · obtain rfl : k = n := by omega
      have e0 : fillTo k k = List.replicate k zeroS := by unfold fillTo; rw [Nat.sub_self]; simp
      rw [e0] at os
      have hmd := dMade w.heap.size (List.replicate k zeroS) wr os (by rw [List.length_replicate]; exact h1) (by rw [List.length_replicate]; exact h2)
      rw [List.length_replicate] at hmd
      have hsz := hK.size
      have HM := Lib.hid hmd
      clear hmd os
      go_wp2_with fail
      refine HM.out.mono ?_; rintro e w2 ⟨rfl, hD, k2⟩
      go_wp2_with fail
      go_ret2
      exact ⟨_, _, _, _, rfl, hD, Nat.le_refl _, hsz, by omega, hK.trans k2⟩
end Go.Proofs.Ytegbekeopgponaa

/- Walks of layer 9 (disk): a text as a sector; nobody's disk. -/
namespace Go.Proofs.Ytegbekeopgponaa
open Go.RowKit Go.Maps
set_option linter.unusedVariables false
set_option linter.unusedSimpArgs false

theorem dImage_nil (w : World) : Calls Try.prog 35 #[.pointer none] w fun e w' => e = .returned (.string ⟨#[]⟩) ∧ w = w' := by
  go_enter Try.func35, Try.ntmps35
  go_wp2_with fail
  go_ret
  exact ⟨rfl, rfl⟩
/-- 128 bytes that begin with s. -/
def sectorL (s : List UInt8) : List UInt8 := (s ++ List.replicate (128 - s.length) 45).take 128
theorem sectorL_len (s : List UInt8) : (sectorL s).length = 128 := by
  unfold sectorL; rw [List.length_take, List.length_append, List.length_replicate]; omega
def strSize : Value → Nat
  | .string s => s.size
  | _ => 0
theorem bs_snoc (l : List UInt8) : bs l ++ (⟨#[45]⟩ : ByteArray) = bs (l ++ [45]) := by rw [show (⟨#[45]⟩ : ByteArray) = bs [45] from rfl, bs_append]
end Go.Proofs.Ytegbekeopgponaa

/- A strings.Builder written. -/
namespace Go.Proofs.Ytegbekeopgponaa
open Go.RowKit
set_option linter.unusedVariables false
set_option linter.unusedSimpArgs false

theorem infoB : ∃ j, Try.prog.info? 136 = some j ∧ j.size = 2 := by
  have h : (Try.prog.info? 136).map (·.size) = some 2 := by kernel_rfl
  obtain ⟨j, hj, hjs⟩ := Option.map_eq_some_iff.1 h
  exact ⟨j, hj, hjs⟩

set_option maxRecDepth 100000 in
theorem bCheck_used (b : Nat) (w : World) (h0 : w.cell? ⟨b, 0, none⟩ = some (.pointer (some ⟨b, 0, none⟩))) :
    Calls Try.prog 113 #[.pointer (some ⟨b, 0, none⟩)] w fun e w' => e = .returned (.tuple #[]) ∧ w' = w := by
  obtain ⟨j, hj, _⟩ := infoB
  go_enter Try.func113, Try.ntmps113
  go_wp2
  rw [Lib.run_neq_ptr_same w _ Try.underlying134 hj]
  go_wp2
  go_end0
  exact ⟨rfl, rfl⟩

set_option maxRecDepth 100000 in
theorem bCheck_fresh (b : Nat) (w : World) (h0 : w.cell? ⟨b, 0, none⟩ = some (.pointer none)) (hsh : w.shape? b = some (136, 2)) (hfz : w.frozen? ⟨b, 0, none⟩ = false) :
    Calls Try.prog 113 #[.pointer (some ⟨b, 0, none⟩)] w fun e w' => e = .returned (.tuple #[]) ∧ w' = w.setCell ⟨b, 0, none⟩ (.pointer (some ⟨b, 0, none⟩)) := by
  obtain ⟨j, hj, hjs⟩ := infoB
  have hlies : liesAt Try.prog Try.prog.depth 136 (2 / Try.prog.cellsOf 136) 0 136 1 = true := by kernel_rfl
  go_enter Try.func113, Try.ntmps113
  go_wp2
  rw [Lib.run_to_unsafe w ⟨b, 0, none⟩ Try.underlying134 Try.underlying153 hj (by rw [hjs]; decide) hsh (Nat.zero_lt_succ 1)]
  simp only [Result.andThen]
  rw [Oper.upon_value]
  go_wp2
  rw [run_callFunc_extern Try.func119 (by kernel_rfl) (by kernel_rfl) (by kernel_rfl) (e := Extern.AbiNoEscape.same) (by kernel_rfl)]
  rw [Lib.run_noEscape]
  simp only [Result.andThen]
  rw [Oper.upon_value]
  go_wp2
  rw [Lib.run_from_unsafe w ⟨b, 0, none⟩ Try.underlying153 Try.underlying134 hj hsh hlies]
  simp only [Result.andThen]
  rw [Oper.upon_value]
  go_wp2
  go_end0
  exact ⟨rfl, rfl⟩

theorem bCheck (B b : Nat) (bs : List Value) (w : World) (h : Lib.IsBuilder 136 5 B b bs w) :
    Calls Try.prog 113 #[.pointer (some ⟨b, 0, none⟩)] w fun e w' => e = .returned (.tuple #[]) ∧ (Lib.BuilderAt 136 5 B b (.pointer (some ⟨b, 0, none⟩)) bs w' ∧ Below B w w') := by
  rcases h with h | h
  · refine (bCheck_fresh b w h.cell0 h.shape h.frozen0).mono ?_
    rintro e w' ⟨rfl, rfl⟩
    exact ⟨rfl, h.used _, (Below.refl B w).setCell (p := ⟨b, 0, none⟩) h.1 _⟩
  · refine (bCheck_used b w h.cell0).mono ?_
    rintro e w' ⟨rfl, rfl⟩
    exact ⟨rfl, h, Below.refl B _⟩

set_option maxRecDepth 100000 in
theorem bWrite (B b : Nat) (bs : List Value) (s : ByteArray) (w : World) (h : Lib.IsBuilder 136 5 B b bs w) (hlen : bs.length + s.size ≤ 140737488355328) (hBw : B ≤ w.heap.size) :
    Calls Try.prog 103 #[.pointer (some ⟨b, 0, none⟩), .string s] w fun e w' => e = .returned (.tuple #[.int .i64 s.size, .nilIface]) ∧ (Lib.BuilderAt 136 5 B b (.pointer (some ⟨b, 0, none⟩)) (bs ++ Lib.strCells s) w' ∧ Below B w w') := by
  have hib : (Try.prog.info? 5).map (fun i => (i.zero, i.size, i.bytes)) = some (some (.int .u8 0), 1, 1) := by kernel_rfl
  obtain ⟨i0, hi, hz0, hz1, hz2⟩ := info_parts hib
  go_enter Try.func103, Try.ntmps103
  go_wp2_with fail
  refine (bCheck B b bs _ h).mono ?_
  rintro e w1 ⟨rfl, h1, hb1⟩
  obtain ⟨hB, v, hbk, hown, hne⟩ := h1
  have c0 : w1.cell? ⟨b, 0, none⟩ = some (.pointer (some ⟨b, 0, none⟩)) := by rw [Lib.cell_of_heap hbk]; rfl
  have c1 : w1.cell? ⟨b, 1, none⟩ = some v := by rw [Lib.cell_of_heap hbk]; rfl
  go_wp2_with (at_builtin; refine Lib.wpList_append_own_string _ rfl _ _ 36 9 rfl B 5 i0 Try.underlying36 Try.underlying9 hi hz0 hz1 hz2 _ _ _ rfl hown s rfl ?c3 ?c4 ?c5 ?_)
  case c3 => unfold maxLen; omega
  case c4 => omega
  case c5 => have := hb1.size; omega
  intro v' w2 hown' hgrow _
  have hlt : b < w1.heap.size := lt_of_block hbk
  have hb2 : w2.heap[b]? = some (.cells #[.pointer (some ⟨b, 0, none⟩), v] 136 (0, 0)) := by
    rw [hgrow.block b hlt (fun e => hne e.symm)]
    exact hbk
  have d0 : w2.cell? ⟨b, 0, none⟩ = some (.pointer (some ⟨b, 0, none⟩)) := by rw [Lib.cell_of_heap hb2]; rfl
  have d1 : w2.cell? ⟨b, 1, none⟩ = some v := by rw [Lib.cell_of_heap hb2]; rfl
  have f1 : w2.frozen? ⟨b, 1, none⟩ = false := Lib.frozen_of_heap hb2 1
  obtain ⟨ao, n', cap, rfl⟩ : ∃ ao n' cap, v' = .slice ao n' cap := by
    rcases hown'.2 with ⟨hv, _⟩ | ⟨g, cap, cur, hv, _⟩
    · exact ⟨_, _, _, hv⟩
    · exact ⟨_, _, _, hv⟩
  go_wp2
  go_ret2
  refine ⟨rfl, ?_, ?_⟩
  · exact Lib.BuilderAt.put (T := 136) (e := 5) hB hb2 (bs' := bs ++ Lib.strCells s) (by simpa [Lib.strCells_length] using hown') (by decide)
  · exact (hb1.grown hgrow (by have := hb1.size; omega) (fun k hk => (hown.lt k hk).1)).setCell (p := ⟨b, 1, none⟩) hB _

/-- the builder holds these bytes. -/
def BuiltAt (w : World) (B b : Nat) (l : List UInt8) : Prop := Lib.IsBuilder 136 5 B b (Lib.byteCells l) w
theorem strCells_bs (l : List UInt8) : Lib.strCells (bs l) = Lib.byteCells l := rfl
theorem byteCells_append (a b : List UInt8) : Lib.byteCells a ++ Lib.byteCells b = Lib.byteCells (a ++ b) := by simp [Lib.byteCells]

theorem built_write (B b : Nat) (l m : List UInt8) (w : World) (h : BuiltAt w B b l) (hlen : l.length + m.length ≤ 140737488355328) (hBw : B ≤ w.heap.size) :
    Calls Try.prog 103 #[.pointer (some ⟨b, 0, none⟩), .string (bs m)] w fun e w' => e = .returned (.tuple #[.int .i64 (bs m).size, .nilIface]) ∧ BuiltAt w' B b (l ++ m) ∧ Below B w w' :=
  (bWrite B b (Lib.byteCells l) (bs m) w h (by rw [Lib.byteCells_length, bs_size]; exact hlen) hBw).mono fun e w' ⟨he, h1, h2⟩ => ⟨he, by
    rw [strCells_bs, byteCells_append] at h1; exact Or.inr h1, h2⟩

theorem built_string (B b : Nat) (l : List UInt8) (w : World) (h : BuiltAt w B b l) (hBw : B ≤ w.heap.size) :
    Calls Try.prog 104 #[.pointer (some ⟨b, 0, none⟩)] w fun e w' => e = .returned (.string (bs l)) ∧ Below B w w' := Try.Builder_String_any B b l w h hBw

theorem Kept.then_below {a w w' : World} (h : Kept [] a w) (hb : Below a.heap.size w w') : Kept [] a w' :=
  ⟨hb.os.trans h.os, hb.tape.trans h.tape, hb.output.trans h.output, Nat.le_trans h.size hb.size, fun k hk _ => (hb.block k hk).trans (h.block k hk (by simp))⟩
theorem built_kept {B b : Nat} {l : List UInt8} {w w' : World} (h : BuiltAt w B b l) (k : Kept [] w w') : BuiltAt w' B b l := by
  have key : ∀ p, Lib.BuilderAt 136 5 B b p (Lib.byteCells l) w → Lib.BuilderAt 136 5 B b p (Lib.byteCells l) w' := by
    rintro p ⟨h1, v, h2, h3, h4⟩
    exact ⟨h1, v, (k.block b (lt_of_block h2) (by simp)).trans h2, ownsRow_kept h3 k (by simp), h4⟩
  rcases h with h | h
  · exact Or.inl (key _ h)
  · exact Or.inr (key _ h)
theorem built_new {B b : Nat} {w : World} (hB : B ≤ b) (h : Own w b #[.pointer none, .slice none 0 0] 136) : BuiltAt w B b [] :=
  Or.inl ⟨hB, _, h, World.ownsRow_nil _ _ _ _, by simp [Value.ownBlock]⟩

end Go.Proofs.Ytegbekeopgponaa
