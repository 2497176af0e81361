/- -/
import Derived.Test.YtdkimcnlhmhpgaaGreatH01
import Derived.Test.YtdkimcnlhmhpgaaGreatH02
import Derived.Test.YtdkimcnlhmhpgaaGreatH04
import Derived.Test.YtdkimcnlhmhpgaaGreatH05
import Derived.Test.YtdkimcnlhmhpgaaGreatH10
import Derived.Test.YtdkimcnlhmhpgaaGreatH23
import Derived.Test.YtdkimcnlhmhpgaaGreatH27
import Derived.Test.YtdkimcnlhmhpgaaGreatH33
import Derived.Lib.AppendZerosOnto
import Derived.ProofKit
import Derived.OpenShut
import Derived.Deep.RegionLaw
import Derived.Deep.RegionWith
import Derived.Deep.RegionHeld3
import Derived.Deep.CutBlock
import Derived.Deep.DeepCutAuto
set_option linter.unusedVariables false
set_option linter.unusedSimpArgs false
namespace Go.Proofs.YtdkimcnlhmhpgaaGreat
open Go.RowKit
theorem qrunsL_len (l : List (Int × Int)) : (qrunsL l).length = 2 + 4 * l.length := by unfold qrunsL; rw [List.length_append, numL_len, jrunsL_len]
end Go.Proofs.YtdkimcnlhmhpgaaGreat

/- -/
namespace Go.Proofs.YtdkimcnlhmhpgaaGreat
open Go.ChangeShapes Go.WideShapes Go.ChangeAt Go.RowKit Go.Deep
def RecCells (lo hi : Nat) (w : World) (cs : List Value) (a : JRec) : Prop := ∃ kv, cs = [.int .i64 a.kind, .int .u32 a.id, .string (bs a.name), .int .i64 a.size, kv] ∧ RunsIn w kv a.runs lo hi ∧ a.fits
def RecsIn (w : World) (v : Value) (l : List JRec) (lo hi : Nat) : Prop := RowsOf 5 (RecCells lo hi) w v l lo hi
theorem RecsIn.kept {S : List Nat} {w w' : World} {v : Value} {l : List JRec} {lo hi : Nat} (h : RecsIn w v l lo hi) (k : Kept S w w') (hS : ∀ x ∈ S, x < lo ∨ hi ≤ x) : RecsIn w' v l lo hi :=
 RowsOf.kept h k hS (fun cs a ⟨kv, e1, e2, e3⟩ => ⟨kv, e1, e2.kept k hS, e3⟩)
theorem RecsIn.kept0 {w w' : World} {v : Value} {l : List JRec} {lo hi : Nat} (h : RecsIn w v l lo hi) (k : Kept [] w w') : RecsIn w' v l lo hi := h.kept k (fun x hx => by cases hx)
theorem RecsIn.at_ {w : World} {p : Option Addr} {n c : Nat} {l : List JRec} {lo hi : Nat} (h : RecsIn w (.slice p n c) l lo hi) (i : Nat) (hi' : i < l.length) :
  ∃ b off kv, p = some ⟨b, off, none⟩ ∧ w.cell? ⟨b, off + i * 5, none⟩ = some (.int .i64 l[i].kind) ∧ w.cell? ⟨b, off + i * 5 + 1, none⟩ = some (.int .u32 l[i].id) ∧ w.cell? ⟨b, off + i * 5 + 2, none⟩ = some (.string (bs l[i].name)) ∧ w.cell? ⟨b, off + i * 5 + 3, none⟩ = some (.int .i64 l[i].size) ∧ w.cell? ⟨b, off + i * 5 + 4, none⟩ = some kv ∧ RunsIn w kv l[i].runs lo hi ∧ l[i].fits ∧ lo ≤ b ∧ b < hi ∧ hi ≤ w.heap.size := by
 obtain ⟨b, off, cs, e1, e2, ⟨kv, rfl, e4, e5⟩, e6, e7⟩ := RowsOf.at_ h i hi'
 exact ⟨b, off, kv, e1, e6 0 _ rfl, e6 1 _ rfl, e6 2 _ rfl, e6 3 _ rfl, e6 4 _ rfl, e4, e5, e7⟩
section
variable {H : Type} {enc : TypeId × Value → H} {w : World} {base : Nat} {held : Bool} {r : Reach} {b0 : Nat}
end
def bodyL (l : List JRec) : List UInt8 := numL l.length 2 ++ (l.map recL).flatten
def txL (l : List JRec) : List UInt8 := numL (bodyL l).length 4 ++ (numL (crc (bodyL l)) 4 ++ bodyL l)
theorem recL_len {r : JRec} (h : RecOk r) : (recL r).length ≤ 200 := by
 obtain ⟨_, _, _, _, nm, _, _, rf⟩ := h
 have := rf.1
 unfold recL
 rw [List.length_append, List.length_append, List.length_append, numL_len]
 split <;> split <;> split <;> simp [numL_len, textL_len, qrunsL_len] <;> omega
theorem recs_len {l : List JRec} (h : ∀ r ∈ l, RecOk r) : (l.map recL).flatten.length ≤ 200 * l.length := by
 induction l with
 | nil => simp
 | cons a t ih =>
  have h1 := recL_len (h a List.mem_cons_self)
  have h2 := ih (fun r hr => h r (List.mem_cons_of_mem _ hr))
  rw [List.map_cons, List.flatten_cons, List.length_append, List.length_cons]; omega
theorem recs_take (l : List JRec) (k : Nat) (h : k < l.length) : ((l.take (k + 1)).map recL).flatten = ((l.take k).map recL).flatten ++ recL l[k] := by
 rw [List.take_succ_eq_append_getElem h, List.map_append, List.flatten_append]
 congr 1
 simp
end Go.Proofs.YtdkimcnlhmhpgaaGreat

/- -/
namespace Go.Proofs.YtdkimcnlhmhpgaaGreat
open Go.RowKit
def txCode (l : List JRec) : Int := if l.length = 0 then 3 else if l.all mayR then 0 else 1
def txOut (l : List JRec) : List UInt8 := if txCode l = 0 then txL l else []
def TxSays (l : List JRec) (w : World) (e : Ending) (w' : World) : Prop := e = .returned (.tuple #[.string (bs (txOut l)), .int .i64 (txCode l)]) ∧ Kept [] w w'
theorem tx_none {l : List JRec} (h : l.length = 0) : txCode l = 3 ∧ txOut l = [] := by
 have e : txCode l = 3 := by unfold txCode; rw [if_pos h]
 exact ⟨e, by unfold txOut; rw [e, if_neg (by decide)]⟩
theorem tx_no {l : List JRec} {k : Nat} (hk : k < l.length) (h : mayR l[k] = false) : txCode l = 1 ∧ txOut l = [] := by
 have e : txCode l = 1 := by
  unfold txCode
  rw [if_neg (by omega), if_neg]
  intro ha
  have := List.all_eq_true.1 ha l[k] (List.getElem_mem hk)
  rw [h] at this; cases this
 exact ⟨e, by unfold txOut; rw [e, if_neg (by decide)]⟩
theorem tx_yes {l : List JRec} (h0 : 0 < l.length) (h : ∀ j (hj : j < l.length), mayR l[j] = true) : txCode l = 0 ∧ txOut l = txL l := by
 have e : txCode l = 0 := by
  unfold txCode
  rw [if_neg (by omega), if_pos]
  rw [List.all_eq_true]
  intro r hr
  obtain ⟨j, hj, rfl⟩ := List.mem_iff_getElem.1 hr
  exact h j hj
 exact ⟨e, by unfold txOut; rw [if_pos e]⟩
theorem txSays_no {l : List JRec} {C : Int} {w w' : World} (h : txCode l = C ∧ txOut l = []) (k : Kept [] w w') : TxSays l w (.returned (.tuple #[.string { data := #[] }, .int .i64 C])) w' := by
 refine ⟨?_, k⟩
 rw [h.1, h.2]; rfl
theorem bodyTo_len {l : List JRec} {k : Nat} (hl : l.length ≤ 3000) (hk : k ≤ l.length) (h : ∀ j (hj : j < l.length), j < k → RecOk l[j]) : (numL l.length 2 ++ ((l.take k).map recL).flatten).length ≤ 600100 := by
 have := recs_len (l := l.take k) (fun r hr => by
  rw [List.mem_take_iff_getElem] at hr
  obtain ⟨j, hj, rfl⟩ := hr
  exact h j (by omega) (by omega))
 rw [List.length_append, numL_len]
 have h2 : (l.take k).length ≤ 3000 := by rw [List.length_take]; omega
 omega
set_option maxRecDepth 100000 in
set_option maxHeartbeats 4000000 in
theorem jtx (v : Value) (l : List JRec) (lo hi : Nat) (w : World) (h : RecsIn w v l lo hi) (hl : l.length ≤ 3000) (hrl : ∀ r ∈ l, r.runs.length ≤ 1000000) :
  Calls Tryz.prog 46 #[v] w (TxSays l w) := by
 obtain ⟨p, c, rfl⟩ := RowsOf.shape h
 have hl' : (l.length : Int) ≤ 3000 := by omega
 by_cases h0 : l.length = 0
 ·have hs := txSays_no (w := w) (w' := w) (tx_none h0) (Kept.refl _ _)
  have HS := Lib.hid hs
  have h0' : (l.length : Int) < 1 := by omega
  clear hs h hl hrl h0
  go_enter Tryz.func46, Tryz.ntmps46
  go_wp2_with fail
  go_ret2
  exact HS.out
 ·have h1' : (1 : Int) ≤ l.length := by omega
  have e0 := ju16_nat l.length (by omega)
  have hu := fun W => packU16 l.length W (by omega)
  have HU := Lib.hid hu
  have H := Lib.hid h
  have HRL := Lib.hid hrl
  clear hu h hrl
  go_enter Tryz.func46, Tryz.ntmps46
  go_wp2_with fail
  refine (HU.out _).mono ?_; rintro e w1 ⟨rfl, hk1⟩
  clear e0
  go_wp2_with fail
  go_loopw [4, 22] (fun t i wr => ∃ k : Nat, k ≤ l.length ∧ i = .int .i64 k ∧ t = .string (bs (numL l.length 2 ++ ((l.take k).map recL).flatten)) ∧ (∀ j (hj : j < l.length), j < k → mayR l[j] = true ∧ RecOk l[j]) ∧ Kept [] w wr) (fun _ i _ => l.length - (intOf i).toNat)
  case atStart => exact ⟨0, by omega, rfl, by simp, fun j _ hj => absurd hj (by omega), hk1⟩
  case round =>
   obtain ⟨k, hk, rfl, rfl, hok, hK⟩ := hrel
   have hlen := bodyTo_len hl hk (fun j hj hjk => (hok j hj hjk).2)
   by_cases hlt : k < l.length
   ·obtain ⟨b', off, kv, rfl, c0, c1, c2, c3, c4, hr, hfit, _, hbh, hhw⟩ := (H.out.kept0 hK).at_ k hlt
    have hrun : l[k].runs.length ≤ 1000000 := HRL.out _ (List.getElem_mem hlt)
    obtain ⟨pk, ck, rfl⟩ := hr.shape
    have hno := fun (hm : mayR l[k] = false) => tx_no hlt hm
    have hsu : mayR l[k] = true → RecOk l[k] → ∀ j (hj : j < l.length), j < k + 1 → mayR l[j] = true ∧ RecOk l[j] := fun h1 h2 j hj hjk => by
     by_cases e : j = k
     ·subst e; exact ⟨h1, h2⟩
     ·exact hok j hj (by omega)
    have htk := recs_take l k hlt
    have ka : Kept [] wr (wr.alloc (.cells (l[k].cells (.slice pk l[k].runs.length ck)) 102)) := (Kept.refl _ _).alloc _
    have hch := jcheck l[k] _ lo hi _ (hr.kept0 ka) hrun hfit
    have hby := fun W (kk : Kept [] wr W) (ho : RecOk l[k]) => jbytes l[k] _ lo hi W (hr.kept0 kk) ho
    have hoo := fun (hm : mayR l[k] = true) => rec_ok (r := l[k]) hm hfit
    have hrl2 := fun (ho : RecOk l[k]) => recL_len (r := l[k]) ho
    have oA := Own.new wr (l[k].cells (.slice pk l[k].runs.length ck)) 102
    have HNO := Lib.hid hno
    have HSU := Lib.hid hsu
    have HTK := Lib.hid htk
    have HCH := Lib.hid hch
    have HBY := Lib.hid hby
    have HOO := Lib.hid hoo
    have HRL2 := Lib.hid hrl2
    have HOK := Lib.hid hok
    have HLT := Lib.hid hlt
    have HLEN := Lib.hid hlen
    have KA := Lib.hid ka
    have OA := Lib.hid oA
    have i1 : (k : Int) < l.length := by omega
    clear hno hsu htk hch hby hoo hrl2 hok hlen hr hfit hrun ka oA
    unfold JCheck at HCH
    unfold JRec.cells at HCH HBY KA OA
    generalize hm : mayR l[k] = M at *
    have HM := Lib.hid hm
    clear hm
    generalize l[k].kind = rk at *
    generalize l[k].id = ri at *
    generalize l[k].name = rn at *
    generalize l[k].size = rs at *
    generalize l[k].runs.length = rr at *
    cases M
    ·have hs := HNO.out rfl
     have HS := Lib.hid hs
     clear hs
     go_wp2_with fail
     refine HCH.out.mono ?_; rintro e w2 ⟨rfl, k2⟩
     have kk := (hK.trans KA.out).trans k2
     go_wp2_with fail
     go_ret2
     exact txSays_no HS.out kk
    ·have ho := HOO.out rfl
     have HO := Lib.hid ho
     have hrl3 := HRL2.out ho
     have hb2 := fun W kk => HBY.out W kk ho
     have HB2 := Lib.hid hb2
     clear ho hb2
     have y1 : (bs (recL l[k])).size ≤ 200 := by rw [bs_size]; exact hrl3
     have y0 : (bs (numL l.length 2 ++ ((l.take k).map recL).flatten)).size ≤ 600100 := by rw [bs_size]; exact HLEN.out
     have hstr : Hid (bs (numL l.length 2 ++ ((l.take k).map recL).flatten) ++ bs (recL l[k]) = bs (numL l.length 2 ++ ((l.take (k + 1)).map recL).flatten)) := by
      show _ = _; rw [bs_append, HTK.out]; simp only [List.append_assoc]; rfl
     clear hrl3
     generalize bs (recL l[k]) = RB at *
     generalize bs (numL l.length 2 ++ ((l.take k).map recL).flatten) = S0 at *
     go_wp2_with fail
     refine HCH.out.mono ?_; rintro e w2 ⟨rfl, k2⟩
     have o2 := k2.own OA.out (by simp)
     obtain ⟨d0, d1, d2, d3, d4⟩ := o2.c5
     have k02 := KA.out.trans k2
     go_wp2_with fail
     refine (HB2.out _ k02).mono ?_; rintro e w3 ⟨rfl, k3⟩
     have kk := hK.trans (k02.trans k3)
     have yy : (S0 ++ RB).size = S0.size + RB.size := ByteArray.size_append
     go_wp2_with fail
     go_roundw
     case rel => exact ⟨k + 1, HLT.out, by go_num, by rw [← hstr.out], HSU.out (by first | rfl | trivial) HO.out, kk⟩
     case measure => (have hh := HLT.out; simp [intOf]; omega)
   ·obtain rfl : k = l.length := by omega
    obtain ⟨ec, eo⟩ := tx_yes (l := l) (by omega) (fun j hj => (hok j hj hj).1)
    rw [List.take_length] at hlen ⊢
    have ebody : numL l.length 2 ++ (l.map recL).flatten = bodyL l := rfl
    rw [ebody] at hlen ⊢
    have e1 := ju32_nat (bodyL l).length (by omega)
    have hz : (bs (bodyL l)).size = (bodyL l).length := bs_size _
    have hcr := crc_lt (bodyL l)
    have h1 := fun W => packU32 (bodyL l).length W (by omega)
    have h2 := fun W => csum (bs (bodyL l)) W (by rw [hz]; unfold maxLen; omega)
    have h3 := fun W => packU32 (crc (bodyL l)) W (by omega)
    rw [bs_data] at h2
    have hfin : Hid (bs (numL (bodyL l).length 4) ++ bs (numL (crc (bodyL l)) 4) ++ bs (bodyL l) = bs (txOut l)) := by
     show _ = _; rw [eo, bs_append, bs_append, List.append_assoc]; rfl
    have y1 : (bs (numL (bodyL l).length 4)).size = 4 := by rw [bs_size, numL_len]
    have y2 : (bs (numL (crc (bodyL l)) 4)).size = 4 := by rw [bs_size, numL_len]
    have y3 : (bs (bodyL l)).size ≤ 600100 := by rw [hz]; omega
    have yy : (bs (numL (bodyL l).length 4) ++ bs (numL (crc (bodyL l)) 4)).size = 8 := by rw [ByteArray.size_append, y1, y2]
    have EC := Lib.hid ec
    have H1 := Lib.hid h1
    have H2 := Lib.hid h2
    have H3 := Lib.hid h3
    have HOK := Lib.hid hok
    have hlb : ((bodyL l).length : Int) ≤ 600100 := by omega
    clear ec eo h1 h2 h3 hok ebody
    generalize bs (numL (bodyL l).length 4) = M1 at *
    generalize bs (numL (crc (bodyL l)) 4) = M2 at *
    generalize bs (bodyL l) = M3 at *
    generalize crc (bodyL l) = cr at *
    generalize (bodyL l).length = bl at *
    go_wp2_with fail
    refine (H1.out _).mono ?_; rintro e w2 ⟨rfl, k2⟩
    go_wp2_with fail
    refine (H2.out _).mono ?_; rintro e w' ⟨rfl, rfl⟩
    go_wp2_with fail
    refine (H3.out _).mono ?_; rintro e w3 ⟨rfl, k3⟩
    have kk := (hK.trans k2).trans k3
    go_wp2_with fail
    go_ret2
    exact ⟨by rw [EC.out, ← hfin.out]; rfl, kk⟩
theorem wf64 {n : Int} (h1 : -9223372036854775808 ≤ n) (h2 : n ≤ 9223372036854775807) : (Lit.int .i64 n).wf = true := by
 simp only [Lit.wf, Bool.and_eq_true, decide_eq_true_eq]
 exact ⟨h1, h2⟩
theorem bodyL_len {l : List JRec} (h : ∀ r ∈ l, RecOk r) : (bodyL l).length ≤ 2 + 200 * l.length := by
 have := recs_len h
 unfold bodyL
 rw [List.length_append, numL_len]; omega
def RunsNew (w0 w : World) (v : Value) (l : List (Int × Int)) : Prop := w.ownsRow w0.heap.size 128 2 v l.length (rcells l)
section
variable {w wx wy : World} {b rb ob xb : Nat} {k : Int} {i : Nat} {t : List UInt8} {z : Nat} {v : Value} {rs : List (Int × Int)} {l l' : List UInt8} {x x' : Int}
end
theorem infoRec : ∃ i, Tryz.prog.info? 102 = some i ∧ i.zero = some (.agg #[.int .i64 0, .int .u32 0, .string { data := #[] }, .int .i64 0, .slice none 0 0]) ∧ i.size = 5 ∧ i.bytes = 64 := by
 have hi : (Tryz.prog.info? 102).map (fun i => (i.zero, i.size, i.bytes)) = some (some (.agg #[.int .i64 0, .int .u32 0, .string { data := #[] }, .int .i64 0, .slice none 0 0]), 5, 64) := by kernel_rfl
 obtain ⟨i0, hi0, hz0, hz1, hz2⟩ := info_parts hi
 exact ⟨i0, hi0, hz0, hz1, hz2⟩
def reccells (l : List (JRec × Value)) : List Value := (l.map fun x => [Value.int .i64 x.1.kind, Value.int .u32 x.1.id, Value.string (bs x.1.name), Value.int .i64 x.1.size, x.2]).flatten
theorem reccells_snoc (l : List (JRec × Value)) (r : JRec) (v : Value) : reccells (l ++ [(r, v)]) = reccells l ++ [Value.int .i64 r.kind, Value.int .u32 r.id, Value.string (bs r.name), Value.int .i64 r.size, v] := by simp [reccells]
theorem reccells_get (l : List (JRec × Value)) (i : Nat) (h : i < l.length) (j : Nat) (u : Value) (hj : [Value.int .i64 l[i].1.kind, Value.int .u32 l[i].1.id, Value.string (bs l[i].1.name), Value.int .i64 l[i].1.size, l[i].2][j]? = some u) : (reccells l)[i * 5 + j]? = some u := by
 induction l generalizing i with
 | nil => simp at h
 | cons a l ih =>
  have e : reccells (a :: l) = [Value.int .i64 a.1.kind, Value.int .u32 a.1.id, Value.string (bs a.1.name), Value.int .i64 a.1.size, a.2] ++ reccells l := rfl
  have hj5 : j < 5 := by
   have := (List.getElem?_eq_some_iff.1 hj).1
   simpa using this
  rw [e]
  cases i with
  | zero =>
   rw [List.getElem?_append_left (by simp; omega)]
   simpa using hj
  | succ i =>
   rw [List.getElem?_append_right (by simp; omega)]
   have e1 : (i + 1) * 5 + j - [Value.int .i64 a.1.kind, Value.int .u32 a.1.id, Value.string (bs a.1.name), Value.int .i64 a.1.size, a.2].length = i * 5 + j := by simp; omega
   rw [e1]
   exact ih i (by simpa using h) (by simpa using hj)
def RecsNew (w0 w : World) (v : Value) (l : List JRec) : Prop :=
 ∃ vs : List (JRec × Value), vs.map (·.1) = l ∧ w.ownsRow w0.heap.size 102 5 v l.length (reccells vs) ∧ ∀ x ∈ vs, RunsNew w0 w x.2 x.1.runs ∧ x.1.fits
def OffRecs (w0 w : World) (S : List Nat) : Prop := ∀ x ∈ S, x < w0.heap.size ∨ ∃ cs t, Own w x cs t ∧ t ≠ 128 ∧ t ≠ 102
theorem OffRecs.nil (w0 w : World) : OffRecs w0 w [] := fun x hx => by cases hx
theorem own_ty {w : World} {x : Nat} {cs cs' : Array Value} {t t' : TypeId} (h : Own w x cs t) (h' : w.heap[x]? = some (.cells cs' t' (0, 0))) : t = t' := by
 have o' : w.heap[x]? = some (.cells cs t (0, 0)) := h
 rw [o'] at h'
 injection h' with h'
 injection h' with _ e
theorem RunsNew.keptT {S : List Nat} {w0 w w' : World} {v : Value} {l : List (Int × Int)} (h : RunsNew w0 w v l) (k : Kept S w w') (hS : ∀ x ∈ S, x < w0.heap.size ∨ ∃ cs t, Own w x cs t ∧ t ≠ 128) : RunsNew w0 w' v l :=
 ownsRow_keptT h k (fun x hx hb cs hc => by
  rcases hS x hx with h1 | ⟨cs', t, o, ht⟩
  ·omega
  ·exact ht (own_ty o hc))
theorem RunsNew.base {w0 w1 w : World} {v : Value} {l : List (Int × Int)} (h : RunsNew w1 w v l) (hb : w0.heap.size ≤ w1.heap.size) : RunsNew w0 w v l := ownsRow_base h hb
theorem RunsNew.in_ {w0 w : World} {v : Value} {l : List (Int × Int)} (h : RunsNew w0 w v l) : RunsIn w v l w0.heap.size w.heap.size := RunsIn.of_own h
section
variable {S : List Nat} {w0 w w' : World} {v : Value} {l : List JRec}
theorem RecsNew.kept (h : RecsNew w0 w v l) (k : Kept S w w') (hS : OffRecs w0 w S) : RecsNew w0 w' v l := by
 obtain ⟨vs, h1, h2, h3⟩ := h
 refine ⟨vs, h1, ownsRow_keptT h2 k (fun x hx hb cs hc => ?_), fun x hx => ⟨(h3 x hx).1.keptT k (fun y hy => ?_), (h3 x hx).2⟩⟩
 ·rcases hS x hx with h1 | ⟨cs', t, o, _, ht⟩
  ·omega
  ·exact ht (own_ty o hc)
 ·rcases hS y hy with h1 | ⟨cs', t, o, ht, _⟩
  ·exact Or.inl h1
  ·exact Or.inr ⟨cs', t, o, ht⟩
theorem RecsNew.kept0 (h : RecsNew w0 w v l) (k : Kept [] w w') : RecsNew w0 w' v l := h.kept k (OffRecs.nil _ _)
theorem RecsNew.base {w1 : World} (h : RecsNew w1 w v l) (hb : w0.heap.size ≤ w1.heap.size) : RecsNew w0 w v l := by
 obtain ⟨vs, h1, h2, h3⟩ := h
 exact ⟨vs, h1, ownsRow_base h2 hb, fun x hx => ⟨(h3 x hx).1.base hb, (h3 x hx).2⟩⟩
theorem RecsNew.nil (w0 w : World) : RecsNew w0 w (.slice none 0 0) [] := ⟨[], rfl, World.ownsRow_nil _ _ _ _, fun x hx => by cases hx⟩
theorem RecsNew.shape (h : RecsNew w0 w v l) : ∃ p c, v = .slice p l.length c := by
 obtain ⟨vs, h1, h2, h3⟩ := h; exact own_shape h2
theorem RecsNew.in_ (h : RecsNew w0 w v l) : RecsIn w v l w0.heap.size w.heap.size := by
 obtain ⟨vs, rfl, h2, h3⟩ := h
 by_cases h0 : vs = []
 ·subst h0
  obtain ⟨p, c, rfl⟩ := own_shape h2
  exact Or.inl ⟨rfl, p, c, rfl⟩
 ·have hp : 0 < vs.length := List.length_pos_iff.2 h0
  obtain ⟨g, c, rfl, g1, g2, g3, g4, g5⟩ := ownsRow_at h2 (by simpa using hp)
  refine Or.inr ⟨g, 0, c, rfl, fun i hi => ?_, g1, g2, Nat.le_refl _, fun e => h0 (List.map_eq_nil_iff.1 e), g3, g4⟩
  have hi' : i < vs.length := by simpa using hi
  obtain ⟨q1, q2⟩ := h3 _ (List.getElem_mem hi')
  refine ⟨[Value.int .i64 vs[i].1.kind, Value.int .u32 vs[i].1.id, Value.string (bs vs[i].1.name), Value.int .i64 vs[i].1.size, vs[i].2], rfl, ⟨vs[i].2, by rw [List.getElem_map], by rw [List.getElem_map]; exact q1.in_, by rw [List.getElem_map]; exact q2⟩, fun j u hj => ?_⟩
  rw [Nat.zero_add]
  exact g5 _ _ (reccells_get vs i hi' j u hj)
theorem RecsNew.more {v' kv : Value} {r : JRec} {o : Obj} {w5 : World} {vs : List (JRec × Value)} (h1 : vs.map (·.1) = l) (h3 : ∀ x ∈ vs, RunsNew w0 w x.2 x.1.runs ∧ x.1.fits) (h2 : w.ownsRow w0.heap.size 102 5 v l.length (reccells vs))
  (hr : RunsNew w0 w kv r.runs) (hf : r.fits) (hg : (w.alloc o).grownBy w5 v.ownBlock) (hn : w5.ownsRow w0.heap.size 102 5 v' (l.length + 1) (reccells vs ++ [Value.int .i64 r.kind, Value.int .u32 r.id, Value.string (bs r.name), Value.int .i64 r.size, kv])) :
  RecsNew w0 w5 v' (l ++ [r]) := by
 have hrow := World.ownsRow.alloc h2 o
 have hk : ∀ (u : Value) (rs : List (Int × Int)), RunsNew w0 w u rs → RunsNew w0 w5 u rs := fun u rs hu => by
  have hu' : RunsNew w0 (w.alloc o) u rs := World.ownsRow.alloc hu o
  exact ownsRow_same hu' (fun g cs hb hc => hg.block g (lt_of_block hc) (fun e => own_row_ne hrow (show Own (w.alloc o) g cs 128 from hc) (by decide) e.symm))
 refine ⟨vs ++ [(r, kv)], by simp [h1], by rw [reccells_snoc, List.length_append, List.length_singleton]; exact hn, fun x hx => ?_⟩
 rcases List.mem_append.1 hx with hx | hx
 ·exact ⟨hk _ _ (h3 x hx).1, (h3 x hx).2⟩
 ·have hx : x = (r, kv) := by simpa using hx
  subst hx
  exact ⟨hk _ _ hr, hf⟩
end
end Go.Proofs.YtdkimcnlhmhpgaaGreat
