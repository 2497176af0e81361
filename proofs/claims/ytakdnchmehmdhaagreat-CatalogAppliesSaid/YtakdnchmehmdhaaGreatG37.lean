/- Layer 46 (catalog): items, catalogs and records that come in; the law's few, light, recs. -/
import Derived.Test.YtakdnchmehmdhaaGreatG01
import Derived.Test.YtakdnchmehmdhaaGreatG03
import Derived.Test.YtakdnchmehmdhaaGreatG09
import Derived.Test.YtakdnchmehmdhaaGreatG19
import Derived.ProofKit
import Derived.OpenShut
import Derived.SliceStrings
import Derived.BigQuiet
namespace Go.Proofs.YtakdnchmehmdhaaGreat
open Go.ChangeShapes Go.WideShapes Go.ChangeAt Go.RowKit Go.Deep
set_option linter.unusedVariables false
set_option linter.unusedSimpArgs false

section
variable {H : Type} {enc : TypeId × Value → H} {w : World} {base : Nat} {held : Bool} {r : Reach} {b0 : Nat}
set_option maxRecDepth 100000 in
theorem item_of_trod {fuel : Nat} {cs : List Value} {y : DataW H × List MemPlace} (h : DataW.trod enc Tryz.prog w base (fun _ => true) held fuel 58 cs = some y) (hl : cs.length = 4) :
    ∃ a : JItem, ∃ kv, cs = [.int .u32 a.id, .string (bs a.name), .int .i64 a.size, kv] ∧ ItemOk w (a, kv) := by
  have hc1 : Tryz.prog.cellsOf 22 = 1 := by kernel_rfl
  have hc2 : Tryz.prog.cellsOf 9 = 1 := by kernel_rfl
  have hc3 : Tryz.prog.cellsOf 3 = 1 := by kernel_rfl
  have hc4 : Tryz.prog.cellsOf 45 = 1 := by kernel_rfl
  match cs, hl with
  | [c1, c2, c3, c4], _ =>
    obtain ⟨xs, n, _, _, _, hlen, hi⟩ := DataW.trod_struct Tryz.underlying58 h
    match xs, hlen with
    | [y1, y2, y3, y4], _ =>
      have g1 := hi 0 _ rfl
      have g2 := hi 1 _ rfl
      have g3 := hi 2 _ rfl
      have g4 := hi 3 _ rfl
      simp only [hc1, hc2, hc3, hc4, List.getElem?_cons_succ, List.getElem?_cons_zero, List.drop_succ_cons, List.drop_zero, List.take_succ_cons, List.take_zero] at g1 g2 g3 g4
      obtain ⟨a1, e1, _, w1⟩ := DataW.trod_int Tryz.underlying22 g1
      obtain ⟨a2, e2, _, w2⟩ := DataW.trod_string Tryz.underlying9 g2
      obtain ⟨a3, e3, _, w3⟩ := DataW.trod_int Tryz.underlying3 g3
      obtain ⟨l, hl4, hwl⟩ := runsW_of_trod g4
      injection e1 with e1; injection e2 with e2; injection e3 with e3
      subst e1 e2 e3
      refine ⟨⟨a1, a2.data.toList, a3, l⟩, c4, by rw [bs_of], hl4, ⟨w1, ?_, w3⟩, hwl⟩
      show a2.data.toList.length ≤ maxLen
      simpa using w2
theorem ItemsIn.of_rows {v : Value} {l : List JItem} {hi : Nat} (h : RowsOf 4 (fun w cs (a : JItem) => ∃ kv, cs = [.int .u32 a.id, .string (bs a.name), .int .i64 a.size, kv] ∧ ItemOk w (a, kv)) w v l 0 hi) : ItemsIn w v l := by
  rcases h with ⟨rfl, a, c, rfl⟩ | ⟨b, off, c, rfl, hr, _, hb, hh, hne, hlc, hcm⟩
  · exact ItemsIn.nil w a c
  · have H : ∀ i : Fin l.length, ∃ kv, ItemOk w (l[i], kv) ∧ ∀ j u, [Value.int .u32 l[i].id, .string (bs l[i].name), .int .i64 l[i].size, kv][j]? = some u → w.cell? ⟨b, off + (i.val * 4 + j), none⟩ = some u := fun i => by
      obtain ⟨cs, _, ⟨kv, rfl, h2⟩, h3⟩ := hr i.val i.isLt
      exact ⟨kv, h2, h3⟩
    have hch : ∃ f : Fin l.length → Value, ∀ i, ItemOk w (l[i], f i) ∧ ∀ j u, [Value.int .u32 l[i].id, .string (bs l[i].name), .int .i64 l[i].size, f i][j]? = some u → w.cell? ⟨b, off + (i.val * 4 + j), none⟩ = some u := ⟨fun i => Classical.choose (H i), fun i => Classical.choose_spec (H i)⟩
    obtain ⟨f, hf⟩ := hch
    have hvl : (List.ofFn (fun i : Fin l.length => ((l[i] : JItem), f i))).length = l.length := List.length_ofFn
    refine ⟨List.ofFn (fun i : Fin l.length => ((l[i] : JItem), f i)), ?_, ?_, fun x hx => ?_⟩
    · apply List.ext_getElem
      · simp
      · intro i h1 h2
        simp
    · rw [hvl]
      refine ⟨by rw [icells_len, hvl], Or.inr ⟨b, off, c, rfl, fun j u hj => ?_, by omega, List.length_pos_iff.2 hne, hlc, hcm⟩⟩
      have hj' := (List.getElem?_eq_some_iff.1 hj).1
      rw [icells_len, hvl] at hj'
      obtain ⟨i, q, hq, rfl⟩ : ∃ i q, q < 4 ∧ j = i * 4 + q := ⟨j / 4, j % 4, Nat.mod_lt _ (by omega), by omega⟩
      have hi : i < l.length := by omega
      have hg := icells_get (List.ofFn (fun i : Fin l.length => ((l[i] : JItem), f i))) i (by rw [hvl]; exact hi)
      simp only [List.getElem_ofFn] at hg
      have hc := (hf ⟨i, hi⟩).2
      obtain ⟨g0, g1, g2, g3⟩ := hg
      have hu : q = 0 ∨ q = 1 ∨ q = 2 ∨ q = 3 := by omega
      rcases hu with rfl | rfl | rfl | rfl
      · rw [Nat.add_zero, g0] at hj; exact hc 0 u hj
      · rw [g1] at hj; exact hc 1 u hj
      · rw [g2] at hj; exact hc 2 u hj
      · rw [g3] at hj; exact hc 3 u hj
    · obtain ⟨i, rfl⟩ := List.mem_ofFn.1 hx
      exact (hf i).1
theorem items_of_trod {fuel : Nat} {c : Value} {x : DataW H × List MemPlace} (h : DataW.trod enc Tryz.prog w base (fun _ => true) held fuel 23 [c] = some x) : ∃ l, ItemsIn w c l := by
  obtain ⟨l, hl⟩ := rows_of_trod (R := fun w cs (a : JItem) => ∃ kv, cs = [.int .u32 a.id, .string (bs a.name), .int .i64 a.size, kv] ∧ ItemOk w (a, kv)) Tryz.underlying23 (by kernel_rfl) (by omega) (fun n cs y => item_of_trod) h
  exact ⟨l, ItemsIn.of_rows hl⟩
set_option maxRecDepth 100000 in
theorem open_cat {v : Value} {d : DataW H} {p : List MemPlace} (hv : Value.okWide Tryz.prog w r b0 25 v) (h : DataW.Trod enc Tryz.prog w base (fun _ => true) held 25 v d p) : ∃ c, CatIn w v c := by
  obtain ⟨cs, rfl, hsz⟩ := okWide_struct Tryz.underlying25 hv
  have hc : Tryz.prog.cellsOf 25 = 5 := by kernel_rfl
  have hc1 : Tryz.prog.cellsOf 22 = 1 := by kernel_rfl
  have hc3 : Tryz.prog.cellsOf 23 = 1 := by kernel_rfl
  rw [hc] at hsz
  obtain ⟨l⟩ := cs
  match l, hsz with
  | [c0, c1, c2, c3, c4], _ =>
    obtain ⟨fuel, hf⟩ := h
    obtain ⟨xs, n, _, _, _, hlen, hi⟩ := DataW.trod_struct Tryz.underlying25 hf
    match xs, hlen with
    | [y0, y1, y2, y3, y4], _ =>
      have g0 := hi 0 _ rfl
      have g1 := hi 1 _ rfl
      have g2 := hi 2 _ rfl
      have g3 := hi 3 _ rfl
      have g4 := hi 4 _ rfl
      simp only [hc1, hc3, Value.cells, List.getElem?_cons_succ, List.getElem?_cons_zero, List.drop_succ_cons, List.drop_zero, List.take_succ_cons, List.take_zero] at g0 g1 g2 g3 g4
      obtain ⟨a0, e0, _, w0⟩ := DataW.trod_int Tryz.underlying22 g0
      obtain ⟨a1, e1, _, w1⟩ := DataW.trod_int Tryz.underlying22 g1
      obtain ⟨l2, h2⟩ := items_of_trod g2
      obtain ⟨l3, h3⟩ := items_of_trod g3
      obtain ⟨l4, h4⟩ := items_of_trod g4
      injection e0 with e0; injection e1 with e1
      subst e0 e1
      exact ⟨⟨a0, a1, l2, l3, l4⟩, c2, c3, c4, rfl, h2, h3, h4, w0, w1⟩
set_option maxRecDepth 100000 in
theorem recW_of_trod {fuel : Nat} {cs : List Value} {y : DataW H × List MemPlace} (h : DataW.trod enc Tryz.prog w base (fun _ => true) held fuel 55 cs = some y) (hl : cs.length = 5) :
    ∃ a, RecCells 0 w.heap.size w cs a ∧ ∀ q ∈ a.runs, WfRun q := by
  have hc0 : Tryz.prog.cellsOf 53 = 1 := by kernel_rfl
  have hc1 : Tryz.prog.cellsOf 22 = 1 := by kernel_rfl
  have hc2 : Tryz.prog.cellsOf 9 = 1 := by kernel_rfl
  have hc3 : Tryz.prog.cellsOf 3 = 1 := by kernel_rfl
  have hc4 : Tryz.prog.cellsOf 45 = 1 := by kernel_rfl
  match cs, hl with
  | [c0, c1, c2, c3, c4], _ =>
    obtain ⟨xs, n, _, _, _, hlen, hi⟩ := DataW.trod_struct Tryz.underlying55 h
    match xs, hlen with
    | [y0, y1, y2, y3, y4], _ =>
      have g0 := hi 0 _ rfl
      have g1 := hi 1 _ rfl
      have g2 := hi 2 _ rfl
      have g3 := hi 3 _ rfl
      have g4 := hi 4 _ rfl
      simp only [hc0, hc1, hc2, hc3, hc4, List.getElem?_cons_succ, List.getElem?_cons_zero, List.drop_succ_cons, List.drop_zero, List.take_succ_cons, List.take_zero] at g0 g1 g2 g3 g4
      obtain ⟨a0, e0, _, w0⟩ := DataW.trod_int Tryz.underlying53 g0
      obtain ⟨a1, e1, _, w1⟩ := DataW.trod_int Tryz.underlying22 g1
      obtain ⟨a2, e2, _, w2⟩ := DataW.trod_string Tryz.underlying9 g2
      obtain ⟨a3, e3, _, w3⟩ := DataW.trod_int Tryz.underlying3 g3
      obtain ⟨l, hl4, hwl⟩ := runsW_of_trod g4
      injection e0 with e0; injection e1 with e1; injection e2 with e2; injection e3 with e3
      subst e0 e1 e2 e3
      refine ⟨⟨a0, a1, a2.data.toList, a3, l⟩, ⟨c4, by rw [bs_of], hl4, w0, w1, ?_, w3⟩, hwl⟩
      show a2.data.toList.length ≤ maxLen
      simpa using w2
set_option maxRecDepth 100000 in
theorem open_recsW {v : Value} {d : DataW H} {p : List MemPlace} (hv : Value.okWide Tryz.prog w r b0 40 v) (h : DataW.Trod enc Tryz.prog w base (fun _ => true) held 40 v d p) : ∃ l, RecsIn w v l 0 w.heap.size ∧ ∀ q ∈ l, ∀ a ∈ q.runs, WfRun a := by
  obtain ⟨a0, len, cap, rfl⟩ := okWide_slice Tryz.underlying40 hv
  obtain ⟨fuel, hf⟩ := h
  obtain ⟨l, hl⟩ := rows_of_trod (R := fun w' cs a => RecCells 0 w.heap.size w' cs a ∧ ∀ q ∈ a.runs, WfRun q) Tryz.underlying40 (by kernel_rfl) (by omega) (fun n cs y => recW_of_trod) (by simpa [Value.cells] using hf)
  rcases hl with ⟨rfl, h2⟩ | ⟨b, off, c, e, hi, rest⟩
  · exact ⟨[], Or.inl ⟨rfl, h2⟩, fun q hq => (by cases hq)⟩
  · refine ⟨l, Or.inr ⟨b, off, c, e, fun i hh => ?_, rest⟩, fun q hq => ?_⟩
    · obtain ⟨cs, a1, a2, a3⟩ := hi i hh
      exact ⟨cs, a1, a2.1, a3⟩
    · obtain ⟨i, hh, rfl⟩ := List.mem_iff_getElem.1 hq
      obtain ⟨cs, a1, a2, a3⟩ := hi i hh
      exact a2.2
end
/-! ### the law's few, light, recs -/
def fewI (l : List JItem) : Prop := l.length ≤ 12 ∧ ∀ a ∈ l, a.runs.length ≤ 20 ∧ a.name.length ≤ 100
def lightC (c : JCat) : Prop := fewI c.boxes ∧ fewI c.mans ∧ fewI c.names
def fewR (l : List JRec) : Prop := l.length ≤ 30 ∧ ∀ a ∈ l, a.runs.length ≤ 20 ∧ a.name.length ≤ 100
theorem fewI.small {l : List JItem} (h : fewI l) : SmallL l := ⟨by have := h.1; omega, fun a ha => by have := (h.2 a ha).1; omega⟩
theorem lightC.small {c : JCat} (h : lightC c) : SmallC c := ⟨h.1.small, h.2.1.small, h.2.2.small⟩
theorem lightC.len {c : JCat} (h : lightC c) : c.boxes.length + c.mans.length + c.names.length ≤ 36 := by have := h.1.1; have := h.2.1.1; have := h.2.2.1; omega
theorem flat_few {l : List JRec} (h : ∀ a ∈ l, a.runs.length ≤ 20) : ((l.map (·.runs)).flatten).length ≤ 20 * l.length := by
  induction l with
  | nil => simp
  | cons a t ih =>
    have h1 := h a List.mem_cons_self
    have h2 := ih (fun r hr => h r (List.mem_cons_of_mem _ hr))
    rw [List.map_cons, List.flatten_cons, List.length_append, List.length_cons]; omega
theorem lightC.rec_ {c : JCat} (h : lightC c) : ∀ r ∈ catR c, r.runs.length ≤ 20 := by
  intro r hr
  unfold catR at hr
  simp only [List.mem_append, List.mem_map] at hr
  rcases hr with (⟨a, ha, rfl⟩ | ⟨a, ha, rfl⟩) | ⟨a, ha, rfl⟩
  · exact (h.1.2 a ha).1
  · exact (h.2.1.2 a ha).1
  · exact (h.2.2.2 a ha).1
theorem lightC.runs {c : JCat} (h : lightC c) : (runsC c).length ≤ 720 := by
  have h1 := flat_few h.rec_
  have h2 : (catR c).length = c.boxes.length + c.mans.length + c.names.length := by unfold catR; simp [Nat.add_assoc]
  have := h.len
  unfold runsC
  omega
set_option maxRecDepth 100000 in
set_option maxHeartbeats 4000000 in
theorem zfew (v : Value) (l : List JItem) (w : World) (h : ItemsIn w v l) :
    Calls Tryz.prog 35 #[v] w (EqSays (fewI l) w) := by
  obtain ⟨pv, cv, rfl⟩ := h.shape
  have H := Lib.hid h
  have hlm : (l.length : Int) ≤ 9223372036854775807 := by have := h.len; unfold maxLen at this; omega
  clear h
  go_enter Tryz.func35, Tryz.ntmps35
  go_wp2_with fail
  go_loopw [3] (fun i wr => ∃ k : Nat, k ≤ l.length ∧ k ≤ 12 ∧ i = .int .i64 k ∧ (∀ j (hj : j < l.length), j < k → l[j].runs.length ≤ 20 ∧ l[j].name.length ≤ 100) ∧ Kept [] w wr) (fun i _ => l.length - (intOf i).toNat)
  case atStart => exact ⟨0, Nat.zero_le _, Nat.zero_le _, rfl, fun j hj h => absurd h (Nat.not_lt_zero j), Kept.refl _ _⟩
  case round =>
    obtain ⟨k, hk, hkm, rfl, hlo, hK⟩ := hrel
    rename World => wr
    have HK := Lib.hid hK
    by_cases hlt : k < l.length
    · by_cases hkt : k < 12
      · have i1 : decide ((k : Int) < l.length) = true := by simp; omega
        have i1' : decide (k < l.length) = true := decide_eq_true hlt
        have i1n : (k : Int) < l.length := by omega
        have i2 : decide ((k : Int) < 12) = true := by simp; omega
        obtain ⟨b, off, kv, rfl, hia, hb, hc1, hc2, HIA⟩ := H.out.at4 k hlt
        obtain ⟨y0, y1, y2, y3⟩ := HIA wr hK
        obtain ⟨pk, ck, hkv⟩ := hia.1.shape
        simp only at hkv
        subst hkv
        clear hia HIA hb
        have HLT := Lib.hid hlt
        have HKT := Lib.hid hkt
        have HN : Hid (¬ (l[k].runs.length ≤ 20 ∧ l[k].name.length ≤ 100) → ¬ fewI l) := Lib.hid (fun hh hf => hh (hf.2 _ (List.getElem_mem hlt)))
        have HS : Hid ((l[k].runs.length ≤ 20 ∧ l[k].name.length ≤ 100) → ∀ j (hj : j < l.length), j < k + 1 → l[j].runs.length ≤ 20 ∧ l[j].name.length ≤ 100) := Lib.hid (fun hh j hj hjk => by
          by_cases e : j = k
          · subst e; exact hh
          · exact hlo j hj (by omega))
        clear hlo hK hk hkm
        generalize l[k]'hlt = A at *
        clear hlt hkt
        have hz : ((bs A.name).size : Int) = A.name.length := by rw [bs_size]
        have hz2 : (bs A.name).size = A.name.length := bs_size _
        by_cases g1 : A.runs.length ≤ 20
        · have d1 : decide ((A.runs.length : Int) > 20) = false := by simp; omega
          have d1n : decide (20 < A.runs.length) = false := by simp; omega
          by_cases g2 : A.name.length ≤ 100
          · have d2 : decide ((A.name.length : Int) > 100) = false := by simp; omega
            have d2n : decide (100 < A.name.length) = false := by simp; omega
            have HO := Lib.hid (HS.out ⟨g1, g2⟩)
            clear g1 g2
            go_wp2_with fail
            go_roundw
            case rel => exact ⟨k + 1, HLT.out, HKT.out, by go_num, HO.out, HK.out⟩
            case measure => (have hh := HLT.out; simp [intOf]; omega)
          · have d2 : decide ((A.name.length : Int) > 100) = true := by simp; omega
            have d2n : decide (100 < A.name.length) = true := by simp; omega
            have HO := Lib.hid (HN.out (fun hh => g2 hh.2))
            clear g1 g2
            go_wp2_with fail
            go_ret
            exact eqSays_no HO.out HK.out
        · have d1 : decide ((A.runs.length : Int) > 20) = true := by simp; omega
          have d1n : decide (20 < A.runs.length) = true := by simp; omega
          have HO := Lib.hid (HN.out (fun hh => g1 hh.1))
          clear g1
          go_wp2_with fail
          go_ret
          exact eqSays_no HO.out HK.out
      · obtain rfl : k = 12 := by omega
        have i1 : decide ((12 : Int) < l.length) = true := by simp; omega
        have i1' : decide (12 < l.length) = true := decide_eq_true hlt
        have d3 : decide ((l.length : Int) ≤ 12) = false := by simp; omega
        have d3n : decide (l.length ≤ 12) = false := by simp; omega
        have HO : Hid (¬ fewI l) := Lib.hid (fun hf => by have := hf.1; omega)
        clear hlo hK hk hkm hlt hkt
        go_wp2_with fail
        go_ret
        exact eqSays_no HO.out HK.out
    · obtain rfl : k = l.length := by omega
      have i1 : decide ((l.length : Int) < l.length) = false := by simp
      have d3 : decide ((l.length : Int) ≤ 12) = true := by simp; omega
      have d3n : decide (l.length ≤ 12) = true := by simp; omega
      have HO : Hid (fewI l) := Lib.hid ⟨hkm, fun a ha => by
        obtain ⟨j, hj, rfl⟩ := List.mem_iff_getElem.1 ha
        exact hlo j hj hj⟩
      clear hlo hK hlt hk hkm
      go_wp2_with fail
      go_ret
      exact eqSays_yes HO.out HK.out
set_option maxRecDepth 100000 in
set_option maxHeartbeats 4000000 in
theorem zrecsF (v : Value) (l : List JRec) (lo hi : Nat) (w : World) (h : RecsIn w v l lo hi) :
    Calls Tryz.prog 21 #[v] w (EqSays (fewR l) w) := by
  obtain ⟨pv, cv, rfl⟩ := RowsOf.shape h
  have H := Lib.hid h
  have hlm : (l.length : Int) ≤ 9223372036854775807 := by have := RowsOf.len h; unfold maxLen at this; omega
  clear h
  go_enter Tryz.func21, Tryz.ntmps21
  go_wp2_with fail
  go_loopw [3] (fun i wr => ∃ k : Nat, k ≤ l.length ∧ k ≤ 30 ∧ i = .int .i64 k ∧ (∀ j (hj : j < l.length), j < k → l[j].runs.length ≤ 20 ∧ l[j].name.length ≤ 100) ∧ Kept [] w wr) (fun i _ => l.length - (intOf i).toNat)
  case atStart => exact ⟨0, Nat.zero_le _, Nat.zero_le _, rfl, fun j hj h => absurd h (Nat.not_lt_zero j), Kept.refl _ _⟩
  case round =>
    obtain ⟨k, hk, hkm, rfl, hlo, hK⟩ := hrel
    rename World => wr
    have HK := Lib.hid hK
    by_cases hlt : k < l.length
    · by_cases hkt : k < 30
      · have i1 : decide ((k : Int) < l.length) = true := by simp; omega
        have i1' : decide (k < l.length) = true := decide_eq_true hlt
        have i1n : (k : Int) < l.length := by omega
        have i2 : decide ((k : Int) < 30) = true := by simp; omega
        obtain ⟨b, off, kv, rfl, y0, y1, y2, y3, y4, hrun, hfit, _⟩ := (H.out.kept0 hK).at_ k hlt
        obtain ⟨pk, ck, rfl⟩ := hrun.shape
        clear hrun hfit
        have HLT := Lib.hid hlt
        have HKT := Lib.hid hkt
        have HN : Hid (¬ (l[k].runs.length ≤ 20 ∧ l[k].name.length ≤ 100) → ¬ fewR l) := Lib.hid (fun hh hf => hh (hf.2 _ (List.getElem_mem hlt)))
        have HS : Hid ((l[k].runs.length ≤ 20 ∧ l[k].name.length ≤ 100) → ∀ j (hj : j < l.length), j < k + 1 → l[j].runs.length ≤ 20 ∧ l[j].name.length ≤ 100) := Lib.hid (fun hh j hj hjk => by
          by_cases e : j = k
          · subst e; exact hh
          · exact hlo j hj (by omega))
        clear hlo hK hk hkm
        generalize l[k]'hlt = A at *
        clear hlt hkt
        have hz : ((bs A.name).size : Int) = A.name.length := by rw [bs_size]
        have hz2 : (bs A.name).size = A.name.length := bs_size _
        by_cases g1 : A.runs.length ≤ 20
        · have d1 : decide ((A.runs.length : Int) > 20) = false := by simp; omega
          have d1n : decide (20 < A.runs.length) = false := by simp; omega
          by_cases g2 : A.name.length ≤ 100
          · have d2 : decide ((A.name.length : Int) > 100) = false := by simp; omega
            have d2n : decide (100 < A.name.length) = false := by simp; omega
            have HO := Lib.hid (HS.out ⟨g1, g2⟩)
            clear g1 g2
            go_wp2_with fail
            go_roundw
            case rel => exact ⟨k + 1, HLT.out, HKT.out, by go_num, HO.out, HK.out⟩
            case measure => (have hh := HLT.out; simp [intOf]; omega)
          · have d2 : decide ((A.name.length : Int) > 100) = true := by simp; omega
            have d2n : decide (100 < A.name.length) = true := by simp; omega
            have HO := Lib.hid (HN.out (fun hh => g2 hh.2))
            clear g1 g2
            go_wp2_with fail
            go_ret
            exact eqSays_no HO.out HK.out
        · have d1 : decide ((A.runs.length : Int) > 20) = true := by simp; omega
          have d1n : decide (20 < A.runs.length) = true := by simp; omega
          have HO := Lib.hid (HN.out (fun hh => g1 hh.1))
          clear g1
          go_wp2_with fail
          go_ret
          exact eqSays_no HO.out HK.out
      · obtain rfl : k = 30 := by omega
        have i1 : decide ((30 : Int) < l.length) = true := by simp; omega
        have i1' : decide (30 < l.length) = true := decide_eq_true hlt
        have d3 : decide ((l.length : Int) ≤ 30) = false := by simp; omega
        have d3n : decide (l.length ≤ 30) = false := by simp; omega
        have HO : Hid (¬ fewR l) := Lib.hid (fun hf => by have := hf.1; omega)
        clear hlo hK hk hkm hlt hkt
        go_wp2_with fail
        go_ret
        exact eqSays_no HO.out HK.out
    · obtain rfl : k = l.length := by omega
      have i1 : decide ((l.length : Int) < l.length) = false := by simp
      have d3 : decide ((l.length : Int) ≤ 30) = true := by simp; omega
      have d3n : decide (l.length ≤ 30) = true := by simp; omega
      have HO : Hid (fewR l) := Lib.hid ⟨hkm, fun a ha => by
        obtain ⟨j, hj, rfl⟩ := List.mem_iff_getElem.1 ha
        exact hlo j hj hj⟩
      clear hlo hK hlt hk hkm
      go_wp2_with fail
      go_ret
      exact eqSays_yes HO.out HK.out
set_option maxRecDepth 100000 in
set_option maxHeartbeats 4000000 in
theorem zlight (v : Value) (c : JCat) (w : World) (h : CatIn w v c) :
    Calls Tryz.prog 9 #[v] w (EqSays (lightC c) w) := by
  obtain ⟨vb, vm, vn, rfl, hb, hm, hn, _⟩ := h
  have H1 : Hid (∀ W, Kept [] w W → Calls Tryz.prog 35 #[vb] W (EqSays (fewI c.boxes) W)) := Lib.hid (fun W q => zfew vb _ W (hb.kept0 q))
  have H2 : Hid (∀ W, Kept [] w W → Calls Tryz.prog 35 #[vm] W (EqSays (fewI c.mans) W)) := Lib.hid (fun W q => zfew vm _ W (hm.kept0 q))
  have H3 : Hid (∀ W, Kept [] w W → Calls Tryz.prog 35 #[vn] W (EqSays (fewI c.names) W)) := Lib.hid (fun W q => zfew vn _ W (hn.kept0 q))
  have HL : Hid (lightC c ↔ fewI c.boxes ∧ fewI c.mans ∧ fewI c.names) := Lib.hid Iff.rfl
  obtain ⟨p1, c1, rfl⟩ := hb.shape
  obtain ⟨p2, c2, rfl⟩ := hm.shape
  obtain ⟨p3, c3, rfl⟩ := hn.shape
  have oA := Own.new w #[.int .u32 c.nextBox, .int .u32 c.nextMan, .slice p1 c.boxes.length c1, .slice p2 c.mans.length c2, .slice p3 c.names.length c3] 25
  have OA := Lib.hid oA
  have K0 : Hid (Kept [] w (w.alloc (.cells #[.int .u32 c.nextBox, .int .u32 c.nextMan, .slice p1 c.boxes.length c1, .slice p2 c.mans.length c2, .slice p3 c.names.length c3] 25))) := Lib.hid ((Kept.refl _ _).alloc _)
  obtain ⟨x0, x1, x2, x3, x4⟩ := oA.k5
  unfold EqSays at H1 H2 H3
  generalize lightC c = LC at *
  generalize fewI c.boxes = P1 at *
  generalize fewI c.mans = P2 at *
  generalize fewI c.names = P3 at *
  clear oA hb hm hn
  go_enter Tryz.func9, Tryz.ntmps9
  go_wp2_with fail
  refine (H1.out _ K0.out).mono ?_; rintro e w2 ⟨b1, rfl, hb1, k2⟩
  have K2 := Lib.hid (K0.out.trans k2)
  have O2 := Lib.hid (k2.own OA.out (by simp))
  obtain ⟨x0, x1, x2, x3, x4⟩ := O2.out.k5
  have B1 := Lib.hid hb1
  clear hb1 k2
  cases b1 with
  | false =>
    have HO : Hid (¬ LC) := Lib.hid (fun hh => by have := B1.out.2 (HL.out.1 hh).1; cases this)
    go_wp2_with fail
    go_ret
    exact eqSays_no HO.out K2.out
  | true =>
    go_wp2_with fail
    refine (H2.out _ K2.out).mono ?_; rintro e w3 ⟨b2, rfl, hb2, k3⟩
    have K3 := Lib.hid (K2.out.trans k3)
    have O3 := Lib.hid (k3.own O2.out (by simp))
    obtain ⟨x0, x1, x2, x3, x4⟩ := O3.out.k5
    have B2 := Lib.hid hb2
    clear hb2 k3
    cases b2 with
    | false =>
      have HO : Hid (¬ LC) := Lib.hid (fun hh => by have := B2.out.2 (HL.out.1 hh).2.1; cases this)
      go_wp2_with fail
      go_ret
      exact eqSays_no HO.out K3.out
    | true =>
      go_wp2_with fail
      refine (H3.out _ K3.out).mono ?_; rintro e w4 ⟨b3, rfl, hb3, k4⟩
      have K4 := Lib.hid (K3.out.trans k4)
      have B3 := Lib.hid hb3
      clear hb3 k4
      cases b3 with
      | false =>
        have HO : Hid (¬ LC) := Lib.hid (fun hh => by have := B3.out.2 (HL.out.1 hh).2.2; cases this)
        go_wp2_with fail
        go_ret
        exact eqSays_no HO.out K4.out
      | true =>
        have HO : Hid LC := Lib.hid (HL.out.2 ⟨B1.out.1 (by simp), B2.out.1 (by simp), B3.out.1 (by simp)⟩)
        go_wp2_with fail
        go_ret
        exact eqSays_yes HO.out K4.out
end Go.Proofs.YtakdnchmehmdhaaGreat
