/- Layer 13 (journal): lists of records; a transaction's bytes: both sides. -/
import Derived.Test.YtegbekeopgponaaG07
import Derived.Test.YtegbekeopgponaaG17
import Derived.Test.YtegbekeopgponaaG19
import Derived.ProofKit
import Derived.OpenShut
namespace Go.Proofs.Ytegbekeopgponaa
open Go.ChangeShapes Go.WideShapes Go.ChangeAt Go.RowKit Go.Deep
set_option linter.unusedVariables false
set_option linter.unusedSimpArgs false

/-- a record's cells. -/
def RecCells (lo hi : Nat) (w : World) (cs : List Value) (a : JRec) : Prop := ∃ kv, cs = [.int .i64 a.kind, .int .u32 a.id, .string (bs a.name), .int .i64 a.size, kv] ∧ RunsIn w kv a.runs lo hi ∧ a.fits
def RecsIn (w : World) (v : Value) (l : List JRec) (lo hi : Nat) : Prop := RowsOf 5 (RecCells lo hi) w v l lo hi
theorem RecsIn.kept {S : List Nat} {w w' : World} {v : Value} {l : List JRec} {lo hi : Nat} (h : RecsIn w v l lo hi) (k : Kept S w w') (hS : ∀ x ∈ S, x < lo ∨ hi ≤ x) : RecsIn w' v l lo hi :=
  RowsOf.kept h k hS (fun cs a ⟨kv, e1, e2, e3⟩ => ⟨kv, e1, e2.kept k hS, e3⟩)
theorem RecsIn.kept0 {w w' : World} {v : Value} {l : List JRec} {lo hi : Nat} (h : RecsIn w v l lo hi) (k : Kept [] w w') : RecsIn w' v l lo hi := h.kept k (fun x hx => by cases hx)
theorem RecsIn.at_ {w : World} {p : Option Addr} {n c : Nat} {l : List JRec} {lo hi : Nat} (h : RecsIn w (.slice p n c) l lo hi) (i : Nat) (hi' : i < l.length) :
    ∃ b off kv, p = some ⟨b, off, none⟩ ∧ w.cell? ⟨b, off + i * 5, none⟩ = some (.int .i64 l[i].kind) ∧ w.cell? ⟨b, off + i * 5 + 1, none⟩ = some (.int .u32 l[i].id) ∧ w.cell? ⟨b, off + i * 5 + 2, none⟩ = some (.string (bs l[i].name)) ∧ w.cell? ⟨b, off + i * 5 + 3, none⟩ = some (.int .i64 l[i].size) ∧ w.cell? ⟨b, off + i * 5 + 4, none⟩ = some kv ∧ RunsIn w kv l[i].runs lo hi ∧ l[i].fits ∧ lo ≤ b ∧ b < hi ∧ hi ≤ w.heap.size := by
  obtain ⟨b, off, cs, e1, e2, ⟨kv, rfl, e4, e5⟩, e6, e7⟩ := RowsOf.at_ h i hi'
  exact ⟨b, off, kv, e1, e6 0 _ rfl, e6 1 _ rfl, e6 2 _ rfl, e6 3 _ rfl, e6 4 _ rfl, e4, e5, e7⟩
section
variable {H : Type} {enc : TypeId × Value → H} {w : World} {base : Nat} {held : Bool} {r : Reach} {b0 : Nat}
set_option maxRecDepth 100000 in
theorem rec_of_trod {fuel : Nat} {cs : List Value} {y : DataW H × List MemPlace} (h : DataW.trod enc Try.prog w base (fun _ => true) held fuel 50 cs = some y) (hl : cs.length = 5) :
    ∃ a, RecCells 0 w.heap.size w cs a := by
  have hc0 : Try.prog.cellsOf 46 = 1 := by kernel_rfl
  have hc1 : Try.prog.cellsOf 47 = 1 := by kernel_rfl
  have hc2 : Try.prog.cellsOf 9 = 1 := by kernel_rfl
  have hc3 : Try.prog.cellsOf 3 = 1 := by kernel_rfl
  have hc4 : Try.prog.cellsOf 48 = 1 := by kernel_rfl
  match cs, hl with
  | [c0, c1, c2, c3, c4], _ =>
    obtain ⟨xs, n, _, _, _, hlen, hi⟩ := DataW.trod_struct Try.underlying50 h
    match xs, hlen with
    | [y0, y1, y2, y3, y4], _ =>
      have g0 := hi 0 _ rfl
      have g1 := hi 1 _ rfl
      have g2 := hi 2 _ rfl
      have g3 := hi 3 _ rfl
      have g4 := hi 4 _ rfl
      simp only [hc0, hc1, hc2, hc3, hc4, List.getElem?_cons_succ, List.getElem?_cons_zero, List.drop_succ_cons, List.drop_zero, List.take_succ_cons, List.take_zero] at g0 g1 g2 g3 g4
      obtain ⟨a0, e0, _, w0⟩ := DataW.trod_int Try.underlying46 g0
      obtain ⟨a1, e1, _, w1⟩ := DataW.trod_int Try.underlying47 g1
      obtain ⟨a2, e2, _, w2⟩ := DataW.trod_string Try.underlying9 g2
      obtain ⟨a3, e3, _, w3⟩ := DataW.trod_int Try.underlying3 g3
      obtain ⟨l, hl4, _⟩ := runsW_of_trod g4
      injection e0 with e0; injection e1 with e1; injection e2 with e2; injection e3 with e3
      subst e0 e1 e2 e3
      refine ⟨⟨a0, a1, a2.data.toList, a3, l⟩, c4, by rw [bs_of], hl4, w0, w1, ?_, w3⟩
      show a2.data.toList.length ≤ maxLen
      simpa using w2
set_option maxRecDepth 100000 in
theorem open_recs {v : Value} {d : DataW H} {p : List MemPlace} (hv : Value.okWide Try.prog w r b0 32 v) (h : DataW.Trod enc Try.prog w base (fun _ => true) held 32 v d p) : ∃ l, RecsIn w v l 0 w.heap.size := by
  obtain ⟨a0, len, cap, rfl⟩ := okWide_slice Try.underlying32 hv
  obtain ⟨fuel, hf⟩ := h
  exact rows_of_trod (R := RecCells 0 w.heap.size) Try.underlying32 (by kernel_rfl) (by omega) (fun n cs y => rec_of_trod) (by simpa [Value.cells] using hf)
end
/-- a transaction's records, and its bytes. -/
def bodyL (l : List JRec) : List UInt8 := numL l.length 2 ++ (l.map recL).flatten
def txL (l : List JRec) : List UInt8 := numL (bodyL l).length 4 ++ (numL (crc (bodyL l)) 4 ++ bodyL l)
theorem recL_len {r : JRec} (h : RecOk r) : (recL r).length ≤ 200 := by
  obtain ⟨_, _, _, _, nm, _, _, rf⟩ := h
  have := rf.1
  unfold recL
  rw [List.length_append, List.length_append, List.length_append, numL_len]
  split <;> split <;> split <;> simp [numL_len, textL_len, qrunsL_len] <;> omega
theorem recs_len {l : List JRec} (h : ∀ r ∈ l, RecOk r) : (l.map recL).flatten.length ≤ 200 * l.length := by
  induction l with
  | nil => simp
  | cons a t ih =>
    have h1 := recL_len (h a List.mem_cons_self)
    have h2 := ih (fun r hr => h r (List.mem_cons_of_mem _ hr))
    rw [List.map_cons, List.flatten_cons, List.length_append, List.length_cons]; omega
theorem recs_take (l : List JRec) (k : Nat) (h : k < l.length) : ((l.take (k + 1)).map recL).flatten = ((l.take k).map recL).flatten ++ recL l[k] := by
  rw [List.take_succ_eq_append_getElem h, List.map_append, List.flatten_append]
  congr 1
  simp
end Go.Proofs.Ytegbekeopgponaa

/- Layer 13 (journal): a transaction's bytes, as the program lays them and as the document has them. -/
namespace Go.Proofs.Ytegbekeopgponaa
open Go.RowKit
set_option linter.unusedVariables false
set_option linter.unusedSimpArgs false

def txCode (l : List JRec) : Int := if l.length = 0 then 3 else if l.all mayR then 0 else 1
def txOut (l : List JRec) : List UInt8 := if txCode l = 0 then txL l else []
def TxSays (l : List JRec) (w : World) (e : Ending) (w' : World) : Prop := e = .returned (.tuple #[.string (bs (txOut l)), .int .i64 (txCode l)]) ∧ Kept [] w w'
theorem tx_none {l : List JRec} (h : l.length = 0) : txCode l = 3 ∧ txOut l = [] := by
  have e : txCode l = 3 := by unfold txCode; rw [if_pos h]
  exact ⟨e, by unfold txOut; rw [e, if_neg (by decide)]⟩
theorem tx_no {l : List JRec} {k : Nat} (hk : k < l.length) (h : mayR l[k] = false) : txCode l = 1 ∧ txOut l = [] := by
  have e : txCode l = 1 := by
    unfold txCode
    rw [if_neg (by omega), if_neg]
    intro ha
    have := List.all_eq_true.1 ha l[k] (List.getElem_mem hk)
    rw [h] at this; cases this
  exact ⟨e, by unfold txOut; rw [e, if_neg (by decide)]⟩
theorem tx_yes {l : List JRec} (h0 : 0 < l.length) (h : ∀ j (hj : j < l.length), mayR l[j] = true) : txCode l = 0 ∧ txOut l = txL l := by
  have e : txCode l = 0 := by
    unfold txCode
    rw [if_neg (by omega), if_pos]
    rw [List.all_eq_true]
    intro r hr
    obtain ⟨j, hj, rfl⟩ := List.mem_iff_getElem.1 hr
    exact h j hj
  exact ⟨e, by unfold txOut; rw [if_pos e]⟩
theorem txSays_no {l : List JRec} {C : Int} {w w' : World} (h : txCode l = C ∧ txOut l = []) (k : Kept [] w w') : TxSays l w (.returned (.tuple #[.string { data := #[] }, .int .i64 C])) w' := by
  refine ⟨?_, k⟩
  rw [h.1, h.2]; rfl
theorem bodyTo_len {l : List JRec} {k : Nat} (hl : l.length ≤ 1000) (hk : k ≤ l.length) (h : ∀ j (hj : j < l.length), j < k → RecOk l[j]) : (numL l.length 2 ++ ((l.take k).map recL).flatten).length ≤ 200100 := by
  have := recs_len (l := l.take k) (fun r hr => by
    rw [List.mem_take_iff_getElem] at hr
    obtain ⟨j, hj, rfl⟩ := hr
    exact h j (by omega) (by omega))
  rw [List.length_append, numL_len]
  have h2 : (l.take k).length ≤ 1000 := by rw [List.length_take]; omega
  omega
set_option maxRecDepth 100000 in
set_option maxHeartbeats 4000000 in
theorem jtx (v : Value) (l : List JRec) (lo hi : Nat) (w : World) (h : RecsIn w v l lo hi) (hl : l.length ≤ 1000) (hrl : ∀ r ∈ l, r.runs.length ≤ 1000000) :
    Calls Try.prog 14 #[v] w (TxSays l w) := by
  obtain ⟨p, c, rfl⟩ := RowsOf.shape h
  have hl' : (l.length : Int) ≤ 1000 := by omega
  by_cases h0 : l.length = 0
  · have hs := txSays_no (w := w) (w' := w) (tx_none h0) (Kept.refl _ _)
    have HS := Lib.hid hs
    have h0' : (l.length : Int) < 1 := by omega
    clear hs h hl hrl h0
    go_enter Try.func14, Try.ntmps14
    go_wp2_with fail
    go_ret2
    exact HS.out
  · have h1' : (1 : Int) ≤ l.length := by omega
    have e0 := ju16_nat l.length (by omega)
    have hu := fun W => packU16 l.length W (by omega)
    have HU := Lib.hid hu
    have H := Lib.hid h
    have HRL := Lib.hid hrl
    clear hu h hrl
    go_enter Try.func14, Try.ntmps14
    go_wp2_with fail
    refine (HU.out _).mono ?_; rintro e w1 ⟨rfl, hk1⟩
    clear e0
    go_wp2_with fail
    go_loopw [4, 22] (fun t i wr => ∃ k : Nat, k ≤ l.length ∧ i = .int .i64 k ∧ t = .string (bs (numL l.length 2 ++ ((l.take k).map recL).flatten)) ∧ (∀ j (hj : j < l.length), j < k → mayR l[j] = true ∧ RecOk l[j]) ∧ Kept [] w wr) (fun _ i _ => l.length - (intOf i).toNat)
    case atStart => exact ⟨0, by omega, rfl, by simp, fun j _ hj => absurd hj (by omega), hk1⟩
    case round =>
      obtain ⟨k, hk, rfl, rfl, hok, hK⟩ := hrel
      have hlen := bodyTo_len hl hk (fun j hj hjk => (hok j hj hjk).2)
      by_cases hlt : k < l.length
      · obtain ⟨b', off, kv, rfl, c0, c1, c2, c3, c4, hr, hfit, _, hbh, hhw⟩ := (H.out.kept0 hK).at_ k hlt
        have hrun : l[k].runs.length ≤ 1000000 := HRL.out _ (List.getElem_mem hlt)
        obtain ⟨pk, ck, rfl⟩ := hr.shape
        have hno := fun (hm : mayR l[k] = false) => tx_no hlt hm
        have hsu : mayR l[k] = true → RecOk l[k] → ∀ j (hj : j < l.length), j < k + 1 → mayR l[j] = true ∧ RecOk l[j] := fun h1 h2 j hj hjk => by
          by_cases e : j = k
          · subst e; exact ⟨h1, h2⟩
          · exact hok j hj (by omega)
        have htk := recs_take l k hlt
        have ka : Kept [] wr (wr.alloc (.cells (l[k].cells (.slice pk l[k].runs.length ck)) 50)) := (Kept.refl _ _).alloc _
        have hch := jcheck l[k] _ lo hi _ (hr.kept0 ka) hrun hfit
        have hby := fun W (kk : Kept [] wr W) (ho : RecOk l[k]) => jbytes l[k] _ lo hi W (hr.kept0 kk) ho
        have hoo := fun (hm : mayR l[k] = true) => rec_ok (r := l[k]) hm hfit
        have hrl2 := fun (ho : RecOk l[k]) => recL_len (r := l[k]) ho
        have oA := Own.new wr (l[k].cells (.slice pk l[k].runs.length ck)) 50
        have HNO := Lib.hid hno
        have HSU := Lib.hid hsu
        have HTK := Lib.hid htk
        have HCH := Lib.hid hch
        have HBY := Lib.hid hby
        have HOO := Lib.hid hoo
        have HRL2 := Lib.hid hrl2
        have HOK := Lib.hid hok
        have HLT := Lib.hid hlt
        have HLEN := Lib.hid hlen
        have KA := Lib.hid ka
        have OA := Lib.hid oA
        have i1 : (k : Int) < l.length := by omega
        clear hno hsu htk hch hby hoo hrl2 hok hlen hr hfit hrun ka oA
        unfold JCheck at HCH
        unfold JRec.cells at HCH HBY KA OA
        generalize hm : mayR l[k] = M at *
        have HM := Lib.hid hm
        clear hm
        generalize l[k].kind = rk at *
        generalize l[k].id = ri at *
        generalize l[k].name = rn at *
        generalize l[k].size = rs at *
        generalize l[k].runs.length = rr at *
        cases M
        · have hs := HNO.out rfl
          have HS := Lib.hid hs
          clear hs
          go_wp2_with fail
          refine HCH.out.mono ?_; rintro e w2 ⟨rfl, k2⟩
          have kk := (hK.trans KA.out).trans k2
          go_wp2_with fail
          go_ret2
          exact txSays_no HS.out kk
        · have ho := HOO.out rfl
          have HO := Lib.hid ho
          have hrl3 := HRL2.out ho
          have hb2 := fun W kk => HBY.out W kk ho
          have HB2 := Lib.hid hb2
          clear ho hb2
          have y1 : (bs (recL l[k])).size ≤ 200 := by rw [bs_size]; exact hrl3
          have y0 : (bs (numL l.length 2 ++ ((l.take k).map recL).flatten)).size ≤ 200100 := by rw [bs_size]; exact HLEN.out
          have hstr : Hid (bs (numL l.length 2 ++ ((l.take k).map recL).flatten) ++ bs (recL l[k]) = bs (numL l.length 2 ++ ((l.take (k + 1)).map recL).flatten)) := by
            show _ = _; rw [bs_append, HTK.out]; simp only [List.append_assoc]; rfl
          clear hrl3
          generalize bs (recL l[k]) = RB at *
          generalize bs (numL l.length 2 ++ ((l.take k).map recL).flatten) = S0 at *
          go_wp2_with fail
          refine HCH.out.mono ?_; rintro e w2 ⟨rfl, k2⟩
          have o2 := k2.own OA.out (by simp)
          obtain ⟨d0, d1, d2, d3, d4⟩ := o2.c5
          have k02 := KA.out.trans k2
          go_wp2_with fail
          refine (HB2.out _ k02).mono ?_; rintro e w3 ⟨rfl, k3⟩
          have kk := hK.trans (k02.trans k3)
          have yy : (S0 ++ RB).size = S0.size + RB.size := ByteArray.size_append
          go_wp2_with fail
          go_roundw
          case rel => exact ⟨k + 1, HLT.out, by go_num, by rw [← hstr.out], HSU.out (by first | rfl | trivial) HO.out, kk⟩
          case measure => (have hh := HLT.out; simp [intOf]; omega)
      · obtain rfl : k = l.length := by omega
        obtain ⟨ec, eo⟩ := tx_yes (l := l) (by omega) (fun j hj => (hok j hj hj).1)
        rw [List.take_length] at hlen ⊢
        have ebody : numL l.length 2 ++ (l.map recL).flatten = bodyL l := rfl
        rw [ebody] at hlen ⊢
        have e1 := ju32_nat (bodyL l).length (by omega)
        have hz : (bs (bodyL l)).size = (bodyL l).length := bs_size _
        have hcr := crc_lt (bodyL l)
        have h1 := fun W => packU32 (bodyL l).length W (by omega)
        have h2 := fun W => csum (bs (bodyL l)) W (by rw [hz]; unfold maxLen; omega)
        have h3 := fun W => packU32 (crc (bodyL l)) W (by omega)
        rw [bs_data] at h2
        have hfin : Hid (bs (numL (bodyL l).length 4) ++ bs (numL (crc (bodyL l)) 4) ++ bs (bodyL l) = bs (txOut l)) := by
          show _ = _; rw [eo, bs_append, bs_append, List.append_assoc]; rfl
        have y1 : (bs (numL (bodyL l).length 4)).size = 4 := by rw [bs_size, numL_len]
        have y2 : (bs (numL (crc (bodyL l)) 4)).size = 4 := by rw [bs_size, numL_len]
        have y3 : (bs (bodyL l)).size ≤ 200100 := by rw [hz]; omega
        have yy : (bs (numL (bodyL l).length 4) ++ bs (numL (crc (bodyL l)) 4)).size = 8 := by rw [ByteArray.size_append, y1, y2]
        have EC := Lib.hid ec
        have H1 := Lib.hid h1
        have H2 := Lib.hid h2
        have H3 := Lib.hid h3
        have HOK := Lib.hid hok
        have hlb : ((bodyL l).length : Int) ≤ 200100 := by omega
        clear ec eo h1 h2 h3 hok ebody
        generalize bs (numL (bodyL l).length 4) = M1 at *
        generalize bs (numL (crc (bodyL l)) 4) = M2 at *
        generalize bs (bodyL l) = M3 at *
        generalize crc (bodyL l) = cr at *
        generalize (bodyL l).length = bl at *
        go_wp2_with fail
        refine (H1.out _).mono ?_; rintro e w2 ⟨rfl, k2⟩
        go_wp2_with fail
        refine (H2.out _).mono ?_; rintro e w' ⟨rfl, rfl⟩
        go_wp2_with fail
        refine (H3.out _).mono ?_; rintro e w3 ⟨rfl, k3⟩
        have kk := (hK.trans k2).trans k3
        go_wp2_with fail
        go_ret2
        exact ⟨by rw [EC.out, ← hfin.out]; rfl, kk⟩
end Go.Proofs.Ytegbekeopgponaa
