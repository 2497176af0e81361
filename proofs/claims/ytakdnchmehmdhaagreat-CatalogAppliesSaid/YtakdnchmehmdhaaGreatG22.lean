/- Layer 13 (journal): the records of a transaction's bytes, as the program reads them. -/
import Derived.Test.YtakdnchmehmdhaaGreatG21
namespace Go.Proofs.YtakdnchmehmdhaaGreat
open Go.RowKit
set_option linter.unusedVariables false
set_option linter.unusedSimpArgs false

theorem infoRec : ∃ i, Tryz.prog.info? 55 = some i ∧ i.zero = some (.agg #[.int .i64 0, .int .u32 0, .string { data := #[] }, .int .i64 0, .slice none 0 0]) ∧ i.size = 5 ∧ i.bytes = 64 := by
  have hi : (Tryz.prog.info? 55).map (fun i => (i.zero, i.size, i.bytes)) = some (some (.agg #[.int .i64 0, .int .u32 0, .string { data := #[] }, .int .i64 0, .slice none 0 0]), 5, 64) := by kernel_rfl
  obtain ⟨i0, hi0, hz0, hz1, hz2⟩ := info_parts hi
  exact ⟨i0, hi0, hz0, hz1, hz2⟩
/-- a row of records' cells: each with its runs' value. -/
def reccells (l : List (JRec × Value)) : List Value := (l.map fun x => [Value.int .i64 x.1.kind, Value.int .u32 x.1.id, Value.string (bs x.1.name), Value.int .i64 x.1.size, x.2]).flatten
theorem reccells_snoc (l : List (JRec × Value)) (r : JRec) (v : Value) : reccells (l ++ [(r, v)]) = reccells l ++ [Value.int .i64 r.kind, Value.int .u32 r.id, Value.string (bs r.name), Value.int .i64 r.size, v] := by simp [reccells]
theorem reccells_get (l : List (JRec × Value)) (i : Nat) (h : i < l.length) (j : Nat) (u : Value) (hj : [Value.int .i64 l[i].1.kind, Value.int .u32 l[i].1.id, Value.string (bs l[i].1.name), Value.int .i64 l[i].1.size, l[i].2][j]? = some u) : (reccells l)[i * 5 + j]? = some u := by
  induction l generalizing i with
  | nil => simp at h
  | cons a l ih =>
    have e : reccells (a :: l) = [Value.int .i64 a.1.kind, Value.int .u32 a.1.id, Value.string (bs a.1.name), Value.int .i64 a.1.size, a.2] ++ reccells l := rfl
    have hj5 : j < 5 := by
      have := (List.getElem?_eq_some_iff.1 hj).1
      simpa using this
    rw [e]
    cases i with
    | zero =>
      rw [List.getElem?_append_left (by simp; omega)]
      simpa using hj
    | succ i =>
      rw [List.getElem?_append_right (by simp; omega)]
      have e1 : (i + 1) * 5 + j - [Value.int .i64 a.1.kind, Value.int .u32 a.1.id, Value.string (bs a.1.name), Value.int .i64 a.1.size, a.2].length = i * 5 + j := by simp; omega
      rw [e1]
      exact ih i (by simpa using h) (by simpa using hj)
/-- a row of records of the run's own, made since w0. -/
def RecsNew (w0 w : World) (v : Value) (l : List JRec) : Prop :=
  ∃ vs : List (JRec × Value), vs.map (·.1) = l ∧ w.ownsRow w0.heap.size 55 5 v l.length (reccells vs) ∧ ∀ x ∈ vs, RunsNew w0 w x.2 x.1.runs ∧ x.1.fits
/-- blocks of other types than records' and runs', or blocks that were there. -/
def OffRecs (w0 w : World) (S : List Nat) : Prop := ∀ x ∈ S, x < w0.heap.size ∨ ∃ cs t, Own w x cs t ∧ t ≠ 48 ∧ t ≠ 55
theorem OffRecs.nil (w0 w : World) : OffRecs w0 w [] := fun x hx => by cases hx
theorem OffRecs.one {w0 w : World} {b : Nat} {cs : Array Value} {t : TypeId} (h : Own w b cs t) (h1 : t ≠ 48) (h2 : t ≠ 55) : OffRecs w0 w [b] := fun x hx => by
  have hx : x = b := by simpa using hx
  subst hx; exact Or.inr ⟨_, _, h, h1, h2⟩
theorem own_ty {w : World} {x : Nat} {cs cs' : Array Value} {t t' : TypeId} (h : Own w x cs t) (h' : w.heap[x]? = some (.cells cs' t' (0, 0))) : t = t' := by
  have o' : w.heap[x]? = some (.cells cs t (0, 0)) := h
  rw [o'] at h'
  injection h' with h'
  injection h' with _ e
theorem RunsNew.keptT {S : List Nat} {w0 w w' : World} {v : Value} {l : List (Int × Int)} (h : RunsNew w0 w v l) (k : Kept S w w') (hS : ∀ x ∈ S, x < w0.heap.size ∨ ∃ cs t, Own w x cs t ∧ t ≠ 48) : RunsNew w0 w' v l :=
  ownsRow_keptT h k (fun x hx hb cs hc => by
    rcases hS x hx with h1 | ⟨cs', t, o, ht⟩
    · omega
    · exact ht (own_ty o hc))
theorem RunsNew.kept0 {w0 w w' : World} {v : Value} {l : List (Int × Int)} (h : RunsNew w0 w v l) (k : Kept [] w w') : RunsNew w0 w' v l := h.keptT k (fun x hx => by cases hx)
theorem RunsNew.base {w0 w1 w : World} {v : Value} {l : List (Int × Int)} (h : RunsNew w1 w v l) (hb : w0.heap.size ≤ w1.heap.size) : RunsNew w0 w v l := ownsRow_base h hb
theorem RunsNew.in_ {w0 w : World} {v : Value} {l : List (Int × Int)} (h : RunsNew w0 w v l) : RunsIn w v l w0.heap.size w.heap.size := RunsIn.of_own h
section
variable {S : List Nat} {w0 w w' : World} {v : Value} {l : List JRec}
theorem RecsNew.kept (h : RecsNew w0 w v l) (k : Kept S w w') (hS : OffRecs w0 w S) : RecsNew w0 w' v l := by
  obtain ⟨vs, h1, h2, h3⟩ := h
  refine ⟨vs, h1, ownsRow_keptT h2 k (fun x hx hb cs hc => ?_), fun x hx => ⟨(h3 x hx).1.keptT k (fun y hy => ?_), (h3 x hx).2⟩⟩
  · rcases hS x hx with h1 | ⟨cs', t, o, _, ht⟩
    · omega
    · exact ht (own_ty o hc)
  · rcases hS y hy with h1 | ⟨cs', t, o, ht, _⟩
    · exact Or.inl h1
    · exact Or.inr ⟨cs', t, o, ht⟩
theorem RecsNew.kept0 (h : RecsNew w0 w v l) (k : Kept [] w w') : RecsNew w0 w' v l := h.kept k (OffRecs.nil _ _)
theorem RecsNew.base {w1 : World} (h : RecsNew w1 w v l) (hb : w0.heap.size ≤ w1.heap.size) : RecsNew w0 w v l := by
  obtain ⟨vs, h1, h2, h3⟩ := h
  exact ⟨vs, h1, ownsRow_base h2 hb, fun x hx => ⟨(h3 x hx).1.base hb, (h3 x hx).2⟩⟩
theorem RecsNew.nil (w0 w : World) : RecsNew w0 w (.slice none 0 0) [] := ⟨[], rfl, World.ownsRow_nil _ _ _ _, fun x hx => by cases hx⟩
theorem RecsNew.shape (h : RecsNew w0 w v l) : ∃ p c, v = .slice p l.length c := by
  obtain ⟨vs, h1, h2, h3⟩ := h; exact own_shape h2
/-- as a slice to be read. -/
theorem RecsNew.in_ (h : RecsNew w0 w v l) : RecsIn w v l w0.heap.size w.heap.size := by
  obtain ⟨vs, rfl, h2, h3⟩ := h
  by_cases h0 : vs = []
  · subst h0
    obtain ⟨p, c, rfl⟩ := own_shape h2
    exact Or.inl ⟨rfl, p, c, rfl⟩
  · have hp : 0 < vs.length := List.length_pos_iff.2 h0
    obtain ⟨g, c, rfl, g1, g2, g3, g4, g5⟩ := ownsRow_at h2 (by simpa using hp)
    refine Or.inr ⟨g, 0, c, rfl, fun i hi => ?_, g1, g2, Nat.le_refl _, fun e => h0 (List.map_eq_nil_iff.1 e), g3, g4⟩
    have hi' : i < vs.length := by simpa using hi
    obtain ⟨q1, q2⟩ := h3 _ (List.getElem_mem hi')
    refine ⟨[Value.int .i64 vs[i].1.kind, Value.int .u32 vs[i].1.id, Value.string (bs vs[i].1.name), Value.int .i64 vs[i].1.size, vs[i].2], rfl, ⟨vs[i].2, by rw [List.getElem_map], by rw [List.getElem_map]; exact q1.in_, by rw [List.getElem_map]; exact q2⟩, fun j u hj => ?_⟩
    rw [Nat.zero_add]
    exact g5 _ _ (reccells_get vs i hi' j u hj)
/-- another record behind them. -/
theorem RecsNew.more {v' kv : Value} {r : JRec} {o : Obj} {w5 : World} {vs : List (JRec × Value)} (h1 : vs.map (·.1) = l) (h3 : ∀ x ∈ vs, RunsNew w0 w x.2 x.1.runs ∧ x.1.fits) (h2 : w.ownsRow w0.heap.size 55 5 v l.length (reccells vs))
    (hr : RunsNew w0 w kv r.runs) (hf : r.fits) (hg : (w.alloc o).grownBy w5 v.ownBlock) (hn : w5.ownsRow w0.heap.size 55 5 v' (l.length + 1) (reccells vs ++ [Value.int .i64 r.kind, Value.int .u32 r.id, Value.string (bs r.name), Value.int .i64 r.size, kv])) :
    RecsNew w0 w5 v' (l ++ [r]) := by
  have hrow := World.ownsRow.alloc h2 o
  have hk : ∀ (u : Value) (rs : List (Int × Int)), RunsNew w0 w u rs → RunsNew w0 w5 u rs := fun u rs hu => by
    have hu' : RunsNew w0 (w.alloc o) u rs := World.ownsRow.alloc hu o
    exact ownsRow_same hu' (fun g cs hb hc => hg.block g (lt_of_block hc) (fun e => own_row_ne hrow (show Own (w.alloc o) g cs 48 from hc) (by decide) e.symm))
  refine ⟨vs ++ [(r, kv)], by simp [h1], by rw [reccells_snoc, List.length_append, List.length_singleton]; exact hn, fun x hx => ?_⟩
  rcases List.mem_append.1 hx with hx | hx
  · exact ⟨hk _ _ (h3 x hx).1, (h3 x hx).2⟩
  · have hx : x = (r, kv) := by simpa using hx
    subst hx
    exact ⟨hk _ _ hr, hf⟩
end
structure RecsSt (w wr : World) (rb : Nat) (s : List UInt8) (j : Nat) (v6 : Value) (vs : List (JRec × Value)) (rest : List UInt8) : Prop where
  so : recsO j s = some (vs.map (·.1), rest)
  rd : RdAt wr w.heap.size rest 0
  box : Own wr rb #[.pointer (some ⟨w.heap.size, 0, none⟩)] 119
  row : wr.ownsRow w.heap.size 55 5 v6 j (reccells vs)
  each : ∀ x ∈ vs, RunsNew w wr x.2 x.1.runs ∧ x.1.fits
  len : vs.length = j
  kept : Kept [] w wr
  hrb : w.heap.size < rb
theorem RecsSt.new {w wr : World} {rb : Nat} {s : List UInt8} {j : Nat} {v6 : Value} {vs : List (JRec × Value)} {rest : List UInt8} (h : RecsSt w wr rb s j v6 vs rest) : RecsNew w wr v6 (vs.map (·.1)) :=
  ⟨vs, rfl, by rw [List.length_map, h.len]; exact h.row, h.each⟩
/-- behind the next record. -/
theorem RecsSt.next {w wr w3 w5 : World} {rb : Nat} {s : List UInt8} {j : Nat} {v6 v' kv : Value} {vs : List (JRec × Value)} {rest rest' : List UInt8} {r : JRec} {o1 o2 : Obj} (h : RecsSt w wr rb s j v6 vs rest) (ho : recO rest = some (r, rest'))
    (kk : Kept [w.heap.size] wr w3) (hR : RdAt w3 w.heap.size rest' 0) (hr : RunsNew wr w3 kv r.runs) (hf : r.fits)
    (hg : ((w3.alloc o1).alloc o2).grownBy w5 v6.ownBlock) (hn : w5.ownsRow w.heap.size 55 5 v' (j + 1) (reccells vs ++ [Value.int .i64 r.kind, Value.int .u32 r.id, Value.string (bs r.name), Value.int .i64 r.size, kv])) :
    RecsSt w w5 rb s (j + 1) v' (vs ++ [(r, kv)]) rest' := by
  have hrow3 : w3.ownsRow w.heap.size 55 5 v6 j (reccells vs) := ownsRow_keptT h.row kk (fun x hx _ cs hc => by
    have hx : x = w.heap.size := by simpa using hx
    subst hx
    exact absurd (own_ty h.rd hc) (by decide))
  have hsz := h.kept.size
  have hrbb := h.hrb
  have hb3 := kk.own h.box (by simp; omega)
  have hk3 : Kept [] w w3 := h.kept.call kk (fun x hx => Or.inr (by have : x = w.heap.size := by simpa using hx
                                                                    omega))
  have heach3 : ∀ x ∈ vs, RunsNew w w3 x.2 x.1.runs ∧ x.1.fits := fun x hx => ⟨(h.each x hx).1.keptT kk (fun y hy => by
    have hy : y = w.heap.size := by simpa using hy
    subst hy
    exact Or.inr ⟨_, _, h.rd, by decide⟩), (h.each x hx).2⟩
  have hra := World.ownsRow.alloc (World.ownsRow.alloc hrow3 o1) o2
  have hk : ∀ (u : Value) (rs : List (Int × Int)), RunsNew w w3 u rs → RunsNew w w5 u rs := fun u rs hu => by
    have hu' : RunsNew w ((w3.alloc o1).alloc o2) u rs := World.ownsRow.alloc (World.ownsRow.alloc hu o1) o2
    exact ownsRow_same hu' (fun g cs hb hc => hg.block g (lt_of_block hc) (fun e => own_row_ne hra (show Own ((w3.alloc o1).alloc o2) g cs 48 from hc) (by decide) e.symm))
  refine ⟨?_, own_grown hra hg (Own.alloc (Own.alloc hR o1) o2) (by decide), own_grown hra hg ((hb3.alloc o1).alloc o2) (by decide), by rw [reccells_snoc]; exact hn, fun x hx => ?_, by rw [List.length_append, h.len]; rfl, ((hk3.alloc o1).alloc o2).grown hg (fun i hi => Or.inr (World.ownsRow.lt hra i hi).1), h.hrb⟩
  · rw [recsO_step h.so ho]; simp
  · rcases List.mem_append.1 hx with hx | hx
    · exact ⟨hk _ _ (heach3 x hx).1, (heach3 x hx).2⟩
    · have hx : x = (r, kv) := by simpa using hx
      subst hx
      exact ⟨hk _ _ (hr.base hsz), hf⟩
/-- what a call of 'records' tells. -/
def RecordsSays (s : List UInt8) (w : World) (e : Ending) (w' : World) : Prop :=
  ((∃ o v, bodyO s = some o ∧ RecsNew w w' v o ∧ e = .returned (.tuple #[v, .bool true])) ∨ (bodyO s = none ∧ ∃ v, e = .returned (.tuple #[v, .bool false]))) ∧ Kept [] w w'
theorem endR_ok : endR [] 0 = 0 := rfl
theorem endR_left {l : List UInt8} (h : l ≠ []) : endR l 0 = 7 := by unfold endR; rw [if_pos ⟨rfl, h⟩]
set_option maxRecDepth 100000 in
set_option maxHeartbeats 4000000 in
theorem jrecords (s : List UInt8) (w : World) :
    Calls Tryz.prog 89 #[.string (bs s)] w (RecordsSays s w) := by
  have hrd := fun W => packRead (bs s) W
  rw [bs_data] at hrd
  have HRD := Lib.hid hrd
  clear hrd
  go_enter Tryz.func89, Tryz.ntmps89
  go_wp2_with fail
  refine (HRD.out _).mono ?_; rintro e w1 ⟨rfl, hR, hk1⟩
  have ob := Own.new w1 #[.pointer (some ⟨w.heap.size, 0, none⟩)] 119
  have hl1 := Own.lt hR
  have hu := rdU16 w.heap.size s 0 _ (Own.alloc hR (.cells #[.pointer (some ⟨w.heap.size, 0, none⟩)] 119))
  have bn : ((numR 2 s 0).1 : Int) < 65536 := by have := numR_lt 2 s 0; omega
  have hx0 := fun h => numR_pos (k := 2) (l := s) (x := 0) h
  have hno := fun h => bodyO_n (s := s) h
  have hnone := fun h => bodyO_none (s := s) h
  have hleft := fun r o h => bodyO_left (s := s) (r := r) (o := o) h
  have hyes := fun o h1 h2 => bodyO_yes (s := s) (o := o) h1 h2
  have HU := Lib.hid hu
  have HR := Lib.hid hR
  have HX0 := Lib.hid hx0
  have HNO := Lib.hid hno
  have HNONE := Lib.hid hnone
  have HLEFT := Lib.hid hleft
  have HYES := Lib.hid hyes
  clear hu HRD hx0 hno hnone hleft hyes hR
  generalize numR 2 s 0 = N at *
  go_wp2_with fail
  refine HU.out.mono ?_; rintro e w2 ⟨rfl, hR2, hk2⟩
  have ob2 := hk2.own ob (by simp; omega)
  have hK : Kept [] w w2 := (hk1.alloc _).call hk2 (fun x hx => Or.inr (by have : x = w.heap.size := by simpa using hx
                                                                           omega))
  clear HU hk1 hk2 ob HR
  generalize w1.heap.size = rb at *
  by_cases h1 : N.1 < 1
  · have hb := HNO.out (by omega)
    have HB := Lib.hid hb
    have h1' : (N.1 : Int) < 1 := by omega
    clear hb h1
    go_wp2_with fail
    go_ret2
    exact ⟨Or.inr ⟨HB.out, _, rfl⟩, hK⟩
  · by_cases h2 : 8192 < N.1
    · have hb := HNO.out (by omega)
      have HB := Lib.hid hb
      have h1' : (1 : Int) ≤ N.1 := by omega
      have h2' : (8192 : Int) < N.1 := by omega
      clear hb h1 h2
      go_wp2_with fail
      go_ret2
      exact ⟨Or.inr ⟨HB.out, _, rfl⟩, hK⟩
    · have h1' : (1 : Int) ≤ N.1 := by omega
      have h2' : (N.1 : Int) ≤ 8192 := by omega
      have hx := HX0.out (by omega)
      obtain ⟨n, s1, x⟩ := N
      simp only at *
      subst hx
      have hst : RecsSt w w2 rb s1 0 (.slice none 0 0) [] s1 := ⟨rfl, hR2, ob2, World.ownsRow_nil _ _ _ _, fun x hx => (by cases hx), rfl, hK, by omega⟩
      have HST := Lib.hid hst
      have cr : w2.cell? ⟨rb, 0, none⟩ = some (.pointer (some ⟨w.heap.size, 0, none⟩)) := ob2.cell 0 (by simp)
      clear hst hR2 ob2 hK HX0 h1 h2
      generalize hnn : (n : Int) = nn at *
      have HNN := Lib.hid hnn
      clear hnn
      go_wp2_with fail
      go_loopw [6, 7, 8, 23] (fun v6 v7 v8 i wr => ∃ (j : Nat) (vs : List (JRec × Value)) (rest : List UInt8), j ≤ n ∧ i = .int .i64 j ∧ RecsSt w wr rb s1 j v6 vs rest) (fun _ _ _ i _ => n - (intOf i).toNat)
      case atStart => exact ⟨0, [], s1, by omega, rfl, HST.out⟩
      case round =>
        obtain ⟨j, vs, rest, hj, rfl, hst⟩ := hrel
        obtain ⟨p6, c6, rfl⟩ := own_shape hst.row
        have cr : wr.cell? ⟨rb, 0, none⟩ = some (.pointer (some ⟨w.heap.size, 0, none⟩)) := hst.box.cell 0 (by simp)
        have HSR := Lib.hid hst
        by_cases hlt : j < n
        · have hrec := jrecord w.heap.size rest wr hst.rd
          have HREC := Lib.hid hrec
          have HLT := Lib.hid hlt
          have i1 : (j : Int) < nn := by have := HNN.out; omega
          clear hrec hst HST
          go_wp2_with fail
          refine HREC.out.mono ?_; rintro e w3 ⟨r, kv, hrow, hfit, hk3, hc⟩
          clear HREC
          rcases hc with ⟨rest', ho, hR3, rfl⟩ | ⟨ho, rfl⟩
          · have HO := Lib.hid ho
            have HR3 := Lib.hid hR3
            have HROW := Lib.hid hrow
            have HFIT := Lib.hid hfit
            obtain ⟨pk, ck, rfl⟩ := own_shape hrow
            obtain ⟨i0, q0, q1, q2, q3⟩ := infoRec
            have hr3 : w3.ownsRow w.heap.size 55 5 (.slice p6 j c6) j (reccells vs) := ownsRow_keptT HSR.out.row hk3 (fun x hx _ cs hc => by
              have hx : x = w.heap.size := by simpa using hx
              subst hx
              exact absurd (own_ty HSR.out.rd hc) (by decide))
            have HR3' := Lib.hid hr3
            have r3 : j + 1 ≤ maxLen := by unfold maxLen; omega
            have r4 : (j + 1) * 64 ≤ 140737488355328 := by omega
            have hsz3 : w.heap.size ≤ w3.heap.size := Nat.le_trans HSR.out.kept.size hk3.size
            clear ho hR3 hrow hfit hr3
            unfold JRec.cells
            go_wp2_with (at_builtin; go_must (refine wpList_append_own_at _ rfl (.tmp 32) (.tmp 34) 40 rfl w.heap.size 55 i0 (.agg #[.int .i64 0, .int .u32 0, .string { data := #[] }, .int .i64 0, .slice none 0 0]) 5 64 Tryz.underlying40 q0 q1 q2 q3 rfl (by decide) _ _ _ rfl (World.ownsRow.alloc (World.ownsRow.alloc HR3'.out _) _) ⟨w3.heap.size + 1, 0, none⟩ 1 1 [.int .i64 r.kind, .int .u32 r.id, .string (bs r.name), .int .i64 r.size, .slice pk r.runs.length ck] rfl rfl ?_ ?_ r3 r4 ?_ ?_))
            · have := World.news_of_block (heap_alloc_new (w3.alloc (.cells #[.int .i64 r.kind, .int .u32 r.id, .string (bs r.name), .int .i64 r.size, .slice pk r.runs.length ck] 55)) (.cells #[.int .i64 r.kind, .int .u32 r.id, .string (bs r.name), .int .i64 r.size, .slice pk r.runs.length ck] 55))
              simpa only [World.size_alloc] using this
            · intro u hu; simp at hu; rcases hu with rfl | rfl | rfl | rfl | rfl <;> rfl
            · simp; omega
            intro v6 w6 o6 gr6 _ _
            have hnx := RecsSt.next HSR.out HO.out hk3 HR3.out HROW.out HFIT.out gr6 o6
            have HNX := Lib.hid hnx
            clear hnx o6 gr6
            go_wp2_with fail
            go_roundw
            case rel => exact ⟨j + 1, _, _, HLT.out, by go_num, HNX.out⟩
            case measure => (have hh := HLT.out; simp [intOf]; omega)
          · have hb := HNONE.out (by rw [recsO_stop HSR.out.so ho HLT.out])
            have HB := Lib.hid hb
            have hkk : Kept [] w w3 := HSR.out.kept.call hk3 (fun x hx => Or.inr (by have : x = w.heap.size := by simpa using hx
                                                                                     omega))
            obtain ⟨pk, ck, rfl⟩ := own_shape hrow
            clear hb ho hrow
            unfold JRec.cells
            go_wp2_with fail
            go_ret2
            exact ⟨Or.inr ⟨HB.out, _, rfl⟩, hkk.alloc _⟩
        · obtain rfl : j = n := by omega
          have i1 : ¬ ((j : Int) < nn) := by have := HNN.out; omega
          have hend := rdEnd w.heap.size rest 0 wr hst.rd
          have HNEW := Lib.hid hst.new
          have hkk := hst.kept
          have hso := hst.so
          by_cases hr : rest = []
          · subst hr
            rw [endR_ok] at hend
            have hb := HYES.out _ (by have := HNN.out; omega) (by have := HNN.out; omega) hso
            have HB := Lib.hid hb
            have HE := Lib.hid hend
            clear hb hend hst HST hso HSR
            go_wp2_with fail
            refine HE.out.mono ?_; rintro e w' ⟨rfl, rfl⟩
            go_wp2_with fail
            go_ret2
            exact ⟨Or.inl ⟨_, _, HB.out, HNEW.out, rfl⟩, hkk⟩
          · rw [endR_left hr] at hend
            have hb := HLEFT.out _ _ hso hr
            have HB := Lib.hid hb
            have HE := Lib.hid hend
            clear hb hend hst HST hso HSR hr
            go_wp2_with fail
            refine HE.out.mono ?_; rintro e w' ⟨rfl, rfl⟩
            go_wp2_with fail
            go_ret2
            exact ⟨Or.inr ⟨HB.out, _, rfl⟩, hkk⟩
end Go.Proofs.YtakdnchmehmdhaaGreat
