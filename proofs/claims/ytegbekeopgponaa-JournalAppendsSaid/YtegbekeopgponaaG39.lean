/- Layer 13 (journal): a case that came in; nobody's disk; which records may be, there and back. -/
import Derived.Test.YtegbekeopgponaaG11
import Derived.Test.YtegbekeopgponaaG20
import Derived.Test.YtegbekeopgponaaG38
namespace Go.Proofs.Ytegbekeopgponaa
open Go.ChangeShapes Go.WideShapes Go.ChangeAt Go.RowKit Go.Deep
set_option linter.unusedVariables false
set_option linter.unusedSimpArgs false

/-- the slice v reads as the bytes l. -/
def BytesIn (w : World) (v : Value) (l : List UInt8) (lo hi : Nat) : Prop :=
  (l = [] ∧ ∃ a c, v = .slice a 0 c) ∨
  ∃ b off c, v = .slice (some ⟨b, off, none⟩) l.length c ∧ (∀ i (h : i < l.length), w.cell? ⟨b, off + i, none⟩ = some (.int .u8 (l[i].toNat : Int))) ∧ lo ≤ b ∧ b < hi ∧ hi ≤ w.heap.size ∧ l ≠ [] ∧ l.length ≤ c ∧ c ≤ maxLen
theorem BytesIn.kept0 {w w' : World} {v : Value} {l : List UInt8} {lo hi : Nat} (h : BytesIn w v l lo hi) (k : Kept [] w w') : BytesIn w' v l lo hi := by
  rcases h with h | ⟨b, off, c, h1, h2, h3, h4, h5, h6, h7, h8⟩
  · exact Or.inl h
  · refine Or.inr ⟨b, off, c, h1, fun i hi => ?_, h3, h4, Nat.le_trans h5 k.size, h6, h7, h8⟩
    rw [k.cell (by show b < _; omega) (by simp)]
    exact h2 i hi
theorem BytesIn.shape {w : World} {v : Value} {l : List UInt8} {lo hi : Nat} (h : BytesIn w v l lo hi) : ∃ p c, v = .slice p l.length c := by
  rcases h with ⟨rfl, a, c, rfl⟩ | ⟨b, off, c, rfl, _⟩
  · exact ⟨a, c, rfl⟩
  · exact ⟨_, c, rfl⟩
theorem BytesIn.len {w : World} {v : Value} {l : List UInt8} {lo hi : Nat} (h : BytesIn w v l lo hi) : l.length ≤ maxLen := by
  rcases h with ⟨rfl, a, c, rfl⟩ | ⟨b, off, c, rfl, _, _, _, _, _, h7, h8⟩
  · exact Nat.zero_le _
  · omega
theorem BytesIn.at_ {w : World} {p : Option Addr} {n c : Nat} {l : List UInt8} {lo hi : Nat} (h : BytesIn w (.slice p n c) l lo hi) (i : Nat) (hi' : i < l.length) :
    ∃ b off, p = some ⟨b, off, none⟩ ∧ w.cell? ⟨b, off + i, none⟩ = some (.int .u8 (l[i].toNat : Int)) ∧ lo ≤ b ∧ b < hi ∧ hi ≤ w.heap.size := by
  rcases h with ⟨rfl, _⟩ | ⟨b, off, c', e, h2, h3, h4, h5, _⟩
  · simp at hi'
  · simp at e
    exact ⟨b, off, e.1, h2 i hi', h3, h4, h5⟩
/-- a case. -/
structure JCase where
  n : Int
  bytes : List UInt8
  fuse : Int
  j : Int
  u : Int
  s : List UInt8
  keep : List Bool
def JCase.cells (a : JCase) (vb vk : Value) : Array Value := #[.int .i64 a.n, vb, .int .i64 a.fuse, .int .i64 a.j, .int .i64 a.u, .string (bs a.s), vk]
def JCase.fits (a : JCase) : Prop := (Lit.int .i64 a.n).wf = true ∧ (Lit.int .i64 a.fuse).wf = true ∧ (Lit.int .i64 a.j).wf = true ∧ (Lit.int .i64 a.u).wf = true ∧ a.s.length ≤ maxLen
section
variable {H : Type} {enc : TypeId × Value → H} {w : World} {base : Nat} {held : Bool} {r : Reach} {b0 : Nat}
theorem bytes_of_trod {fuel : Nat} {c : Value} {x : DataW H × List MemPlace} (h : DataW.trod enc Try.prog w base (fun _ => true) held fuel 36 [c] = some x) : ∃ l, BytesIn w c l 0 w.heap.size := by
  rcases open_ints Try.underlying36 Try.underlying5 (by kernel_rfl) h with ⟨hcs, _⟩ | ⟨x, l, c, ss, hcs, _, hl, hm, hz, _, hcell, hwz⟩
  · simp at hcs
    subst hcs
    exact ⟨[], Or.inl ⟨rfl, _, _, rfl⟩⟩
  · simp at hcs
    subst hcs
    simp only [if_true] at hz
    by_cases h0 : l = 0
    · subst h0; exact ⟨[], Or.inl ⟨rfl, _, _, rfl⟩⟩
    · obtain ⟨b, off, spot⟩ := x
      have hspot : spot = none := by simpa [Addr.add] using World.cell?_spot (hcell 0 (by omega))
      subst hspot
      have hb : b < w.heap.size := by
        have := hcell 0 (by omega)
        rw [Go.WideShapes.add_plain] at this
        exact World.block_lt_of_cell? _ _ this
      refine ⟨(List.range l).map fun i => UInt8.ofNat (ss.getD i 0).toNat, Or.inr ⟨b, off, c, by simp, fun i hi => ?_, Nat.zero_le _, hb, Nat.le_refl _, fun e => ?_, by simpa using hl, hm⟩⟩
      · have hi' : i < l := by simpa using hi
        have hc := hcell i (by omega)
        rw [Go.WideShapes.add_plain] at hc
        rw [hc]
        have hsl : i < ss.length := by omega
        have hw := hwz _ (List.getElem_mem hsl)
        have hg : ss.getD i 0 = ss[i] := by simp [List.getD, List.getElem?_eq_getElem hsl]
        have h8 : 0 ≤ ss[i] ∧ ss[i] ≤ 255 := by
          simp only [Lit.wf, Bool.and_eq_true, decide_eq_true_eq] at hw
          exact ⟨by have := hw.1; exact this, by have := hw.2; exact this⟩
        simp only [List.getElem_map, List.getElem_range]
        rw [UInt8.toNat_ofNat', hg]
        have e : ((ss[i].toNat % 256 : Nat) : Int) = ss[i] := by omega
        simp only [show 2 ^ 8 = 256 from rfl, e]
      · have := congrArg List.length e
        simp at this; omega
set_option maxRecDepth 100000 in
theorem open_case {v : Value} {d : DataW H} {p : List MemPlace} (hv : Value.okWide Try.prog w r b0 39 v) (h : DataW.Trod enc Try.prog w base (fun _ => true) held 39 v d p) :
    ∃ (a : JCase) (vb vk : Value), v = .agg (a.cells vb vk) ∧ BytesIn w vb a.bytes 0 w.heap.size ∧ BoolsIn w vk a.keep 0 w.heap.size ∧ a.fits := by
  obtain ⟨cs, rfl, hsz⟩ := okWide_struct Try.underlying39 hv
  have hc : Try.prog.cellsOf 39 = 7 := by kernel_rfl
  have hc1 : Try.prog.cellsOf 3 = 1 := by kernel_rfl
  have hc2 : Try.prog.cellsOf 36 = 1 := by kernel_rfl
  have hc3 : Try.prog.cellsOf 9 = 1 := by kernel_rfl
  have hc4 : Try.prog.cellsOf 37 = 1 := by kernel_rfl
  rw [hc] at hsz
  obtain ⟨l⟩ := cs
  match l, hsz with
  | [c0, c1, c2, c3, c4, c5, c6], _ =>
    obtain ⟨fuel, hf⟩ := h
    obtain ⟨xs, n, _, _, _, hlen, hi⟩ := DataW.trod_struct Try.underlying39 hf
    match xs, hlen with
    | [y0, y1, y2, y3, y4, y5, y6], _ =>
      have g0 := hi 0 _ rfl
      have g1 := hi 1 _ rfl
      have g2 := hi 2 _ rfl
      have g3 := hi 3 _ rfl
      have g4 := hi 4 _ rfl
      have g5 := hi 5 _ rfl
      have g6 := hi 6 _ rfl
      simp only [hc1, hc2, hc3, hc4, Value.cells, List.getElem?_cons_succ, List.getElem?_cons_zero, List.drop_succ_cons, List.drop_zero, List.take_succ_cons, List.take_zero] at g0 g1 g2 g3 g4 g5 g6
      obtain ⟨a0, e0, _, w0⟩ := DataW.trod_int Try.underlying3 g0
      obtain ⟨bl, hb⟩ := bytes_of_trod g1
      obtain ⟨a2, e2, _, w2⟩ := DataW.trod_int Try.underlying3 g2
      obtain ⟨a3, e3, _, w3⟩ := DataW.trod_int Try.underlying3 g3
      obtain ⟨a4, e4, _, w4⟩ := DataW.trod_int Try.underlying3 g4
      obtain ⟨a5, e5, _, w5⟩ := DataW.trod_string Try.underlying9 g5
      obtain ⟨kl, hk⟩ := bools_of_trod g6
      injection e0 with e0; injection e2 with e2; injection e3 with e3; injection e4 with e4; injection e5 with e5
      subst e0 e2 e3 e4 e5
      refine ⟨⟨a0, bl, a2, a3, a4, a5.data.toList, kl⟩, c1, c6, by unfold JCase.cells; rw [bs_of], hb, hk, w0, w2, w3, w4, ?_⟩
      show a5.data.toList.length ≤ maxLen
      simpa using w5
end
set_option maxRecDepth 100000 in
set_option maxHeartbeats 2000000 in
theorem jnobodyLaw (a : JCase) (vb vk : Value) (w : World) (hb : BytesIn w vb a.bytes 0 w.heap.size) (hk : BoolsIn w vk a.keep 0 w.heap.size) (hf : a.fits) :
    Calls Try.prog 5 #[.agg (a.cells vb vk)] w fun e w' => e = .returned (.bool true) ∧ Below w.heap.size w w' := by
  obtain ⟨pb, cb, rfl⟩ := hb.shape
  have haw := fun W => jawake W
  have HAW := Lib.hid haw
  clear haw hb hf
  have hsk : ∃ pk nk ck, vk = .slice pk nk ck := by
    rcases hk with ⟨_, x, c, rfl⟩ | ⟨b, off, c, rfl, _⟩
    · exact ⟨_, _, _, rfl⟩
    · exact ⟨_, _, _, rfl⟩
  obtain ⟨pk, nk, ck, rfl⟩ := hsk
  clear hk
  unfold JCase.cells
  generalize a.bytes.length = nb at *
  generalize bs a.s = S at *
  go_enter Try.func5, Try.ntmps5
  go_wp2_with fail
  refine (jload_nil _ _ _).mono ?_; rintro e w' ⟨rfl, rfl⟩
  go_wp2_with fail
  refine (jappend_nil _ _ _ _).mono ?_; rintro e w' ⟨rfl, rfl⟩
  go_wp2_with fail
  refine (HAW.out _).mono ?_; rintro e w1 ⟨rfl, k1⟩
  go_wp2_with fail
  go_ret
  exact ⟨rfl, (((Kept.refl _ _).alloc _).trans k1).below⟩
end Go.Proofs.Ytegbekeopgponaa

/- Layer 13 (journal): a transaction's bytes, as the document has them. -/
namespace Go.Proofs.Ytegbekeopgponaa
open Go.RowKit
set_option linter.unusedVariables false
set_option linter.unusedSimpArgs false

set_option maxRecDepth 100000 in
set_option maxHeartbeats 4000000 in
theorem qtx (v : Value) (l : List JRec) (lo hi : Nat) (w : World) (h : RecsIn w v l lo hi) (hl : l.length ≤ 1000) (hok : ∀ r ∈ l, RecOk r) :
    Calls Try.prog 21 #[v] w fun e w' => e = .returned (.string (bs (txL l))) ∧ Kept [] w w' := by
  obtain ⟨p, c, rfl⟩ := RowsOf.shape h
  have hl' : (l.length : Int) ≤ 1000 := by omega
  have e0 := ju64_nat l.length (by omega)
  have hu := fun W => jNum2 l.length W (by omega)
  have HU := Lib.hid hu
  have H := Lib.hid h
  have HOK := Lib.hid hok
  clear hu h hok
  go_enter Try.func21, Try.ntmps21
  go_wp2_with fail
  refine (HU.out _).mono ?_; rintro e w1 ⟨rfl, hk1⟩
  clear e0
  go_wp2_with fail
  go_loopw [3, 4] (fun t i wr => ∃ k : Nat, k ≤ l.length ∧ i = .int .i64 k ∧ t = .string (bs (numL l.length 2 ++ ((l.take k).map recL).flatten)) ∧ Kept [] w wr) (fun _ i _ => l.length - (intOf i).toNat)
  case atStart => exact ⟨0, by omega, rfl, by simp, hk1⟩
  case round =>
    obtain ⟨k, hk, rfl, rfl, hK⟩ := hrel
    have hlen := bodyTo_len hl hk (fun j hj _ => HOK.out _ (List.getElem_mem hj))
    by_cases hlt : k < l.length
    · obtain ⟨b', off, kv, rfl, c0, c1, c2, c3, c4, hr, hfit, _, hbh, hhw⟩ := (H.out.kept0 hK).at_ k hlt
      obtain ⟨pk, ck, rfl⟩ := hr.shape
      have ho := HOK.out _ (List.getElem_mem hlt)
      have htk := recs_take l k hlt
      have hby := fun W (kk : Kept [] wr W) => qrec l[k] _ lo hi W (hr.kept0 kk) ho
      have hrl3 := recL_len ho
      have HTK := Lib.hid htk
      have HBY := Lib.hid hby
      have HLT := Lib.hid hlt
      have HLEN := Lib.hid hlen
      have i1 : (k : Int) < l.length := by omega
      have y1 : (bs (recL l[k])).size ≤ 200 := by rw [bs_size]; exact hrl3
      have y0 : (bs (numL l.length 2 ++ ((l.take k).map recL).flatten)).size ≤ 200100 := by rw [bs_size]; exact hlen
      have hstr : Hid (bs (numL l.length 2 ++ ((l.take k).map recL).flatten) ++ bs (recL l[k]) = bs (numL l.length 2 ++ ((l.take (k + 1)).map recL).flatten)) := by
        show _ = _; rw [bs_append, HTK.out]; simp only [List.append_assoc]; rfl
      clear htk hby hlen hr hfit ho hrl3
      unfold JRec.cells at HBY
      generalize bs (recL l[k]) = RB at *
      generalize bs (numL l.length 2 ++ ((l.take k).map recL).flatten) = S0 at *
      generalize l[k].kind = rk at *
      generalize l[k].id = ri at *
      generalize l[k].name = rn at *
      generalize l[k].size = rs at *
      generalize l[k].runs.length = rr at *
      go_wp2_with fail
      refine (HBY.out _ (Kept.refl _ _)).mono ?_; rintro e w3 ⟨rfl, k3⟩
      have kk := hK.trans k3
      have yy : (S0 ++ RB).size = S0.size + RB.size := ByteArray.size_append
      go_wp2_with fail
      go_roundw
      case rel => exact ⟨k + 1, HLT.out, by go_num, by rw [← hstr.out], kk⟩
      case measure => (have hh := HLT.out; simp [intOf]; omega)
    · obtain rfl : k = l.length := by omega
      rw [List.take_length] at hlen ⊢
      have ebody : numL l.length 2 ++ (l.map recL).flatten = bodyL l := rfl
      rw [ebody] at hlen ⊢
      have e1 := ju64_nat (bodyL l).length (by omega)
      have hz : (bs (bodyL l)).size = (bodyL l).length := bs_size _
      have hcr := crc_lt (bodyL l)
      have e2 := ju64_nat (crc (bodyL l)) (by omega)
      have h1 := fun W => jNum4 (bodyL l).length W (by omega)
      have h2 := fun W => rsum (bs (bodyL l)) W (by rw [hz]; omega)
      have h3 := fun W => jNum4 (crc (bodyL l)) W (by omega)
      rw [bs_data] at h2
      have hfin : Hid (bs (numL (bodyL l).length 4) ++ bs (numL (crc (bodyL l)) 4) ++ bs (bodyL l) = bs (txL l)) := by
        show _ = _; rw [bs_append, bs_append, List.append_assoc]; rfl
      have y1 : (bs (numL (bodyL l).length 4)).size = 4 := by rw [bs_size, numL_len]
      have y2 : (bs (numL (crc (bodyL l)) 4)).size = 4 := by rw [bs_size, numL_len]
      have y3 : (bs (bodyL l)).size ≤ 200100 := by rw [hz]; omega
      have yy : (bs (numL (bodyL l).length 4) ++ bs (numL (crc (bodyL l)) 4)).size = 8 := by rw [ByteArray.size_append, y1, y2]
      have H1 := Lib.hid h1
      have H2 := Lib.hid h2
      have H3 := Lib.hid h3
      have hlb : ((bodyL l).length : Int) ≤ 200100 := by omega
      clear h1 h2 h3 ebody
      generalize bs (numL (bodyL l).length 4) = M1 at *
      generalize bs (numL (crc (bodyL l)) 4) = M2 at *
      generalize bs (bodyL l) = M3 at *
      generalize crc (bodyL l) = cr at *
      generalize (bodyL l).length = bl at *
      go_wp2_with fail
      refine (H1.out _).mono ?_; rintro e w2 ⟨rfl, k2⟩
      go_wp2_with fail
      refine (H2.out _).mono ?_; rintro e w3 ⟨rfl, k3⟩
      go_wp2_with fail
      refine (H3.out _).mono ?_; rintro e w4 ⟨rfl, k4⟩
      have kk := ((hK.trans k2).trans k3).trans k4
      go_wp2_with fail
      go_ret
      exact ⟨by rw [← hfin.out]; rfl, kk⟩
end Go.Proofs.Ytegbekeopgponaa
