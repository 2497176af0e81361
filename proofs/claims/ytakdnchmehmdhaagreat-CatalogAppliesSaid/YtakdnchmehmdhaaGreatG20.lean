/- Layer 13 (journal): a transaction's bytes, as the program lays them and as the document has them. -/
import Derived.Test.YtakdnchmehmdhaaGreatG19
namespace Go.Proofs.YtakdnchmehmdhaaGreat
open Go.RowKit
set_option linter.unusedVariables false
set_option linter.unusedSimpArgs false

def txCode (l : List JRec) : Int := if l.length = 0 then 3 else if l.all mayR then 0 else 1
def txOut (l : List JRec) : List UInt8 := if txCode l = 0 then txL l else []
def TxSays (l : List JRec) (w : World) (e : Ending) (w' : World) : Prop := e = .returned (.tuple #[.string (bs (txOut l)), .int .i64 (txCode l)]) ∧ Kept [] w w'
theorem tx_none {l : List JRec} (h : l.length = 0) : txCode l = 3 ∧ txOut l = [] := by
  have e : txCode l = 3 := by unfold txCode; rw [if_pos h]
  exact ⟨e, by unfold txOut; rw [e, if_neg (by decide)]⟩
theorem tx_no {l : List JRec} {k : Nat} (hk : k < l.length) (h : mayR l[k] = false) : txCode l = 1 ∧ txOut l = [] := by
  have e : txCode l = 1 := by
    unfold txCode
    rw [if_neg (by omega), if_neg]
    intro ha
    have := List.all_eq_true.1 ha l[k] (List.getElem_mem hk)
    rw [h] at this; cases this
  exact ⟨e, by unfold txOut; rw [e, if_neg (by decide)]⟩
theorem tx_yes {l : List JRec} (h0 : 0 < l.length) (h : ∀ j (hj : j < l.length), mayR l[j] = true) : txCode l = 0 ∧ txOut l = txL l := by
  have e : txCode l = 0 := by
    unfold txCode
    rw [if_neg (by omega), if_pos]
    rw [List.all_eq_true]
    intro r hr
    obtain ⟨j, hj, rfl⟩ := List.mem_iff_getElem.1 hr
    exact h j hj
  exact ⟨e, by unfold txOut; rw [if_pos e]⟩
theorem txSays_no {l : List JRec} {C : Int} {w w' : World} (h : txCode l = C ∧ txOut l = []) (k : Kept [] w w') : TxSays l w (.returned (.tuple #[.string { data := #[] }, .int .i64 C])) w' := by
  refine ⟨?_, k⟩
  rw [h.1, h.2]; rfl
theorem bodyTo_len {l : List JRec} {k : Nat} (hl : l.length ≤ 1000) (hk : k ≤ l.length) (h : ∀ j (hj : j < l.length), j < k → RecOk l[j]) : (numL l.length 2 ++ ((l.take k).map recL).flatten).length ≤ 200100 := by
  have := recs_len (l := l.take k) (fun r hr => by
    rw [List.mem_take_iff_getElem] at hr
    obtain ⟨j, hj, rfl⟩ := hr
    exact h j (by omega) (by omega))
  rw [List.length_append, numL_len]
  have h2 : (l.take k).length ≤ 1000 := by rw [List.length_take]; omega
  omega
set_option maxRecDepth 100000 in
set_option maxHeartbeats 4000000 in
theorem jtx (v : Value) (l : List JRec) (lo hi : Nat) (w : World) (h : RecsIn w v l lo hi) (hl : l.length ≤ 1000) (hrl : ∀ r ∈ l, r.runs.length ≤ 1000000) :
    Calls Tryz.prog 38 #[v] w (TxSays l w) := by
  obtain ⟨p, c, rfl⟩ := RowsOf.shape h
  have hl' : (l.length : Int) ≤ 1000 := by omega
  by_cases h0 : l.length = 0
  · have hs := txSays_no (w := w) (w' := w) (tx_none h0) (Kept.refl _ _)
    have HS := Lib.hid hs
    have h0' : (l.length : Int) < 1 := by omega
    clear hs h hl hrl h0
    go_enter Tryz.func38, Tryz.ntmps38
    go_wp2_with fail
    go_ret2
    exact HS.out
  · have h1' : (1 : Int) ≤ l.length := by omega
    have e0 := ju16_nat l.length (by omega)
    have hu := fun W => packU16 l.length W (by omega)
    have HU := Lib.hid hu
    have H := Lib.hid h
    have HRL := Lib.hid hrl
    clear hu h hrl
    go_enter Tryz.func38, Tryz.ntmps38
    go_wp2_with fail
    refine (HU.out _).mono ?_; rintro e w1 ⟨rfl, hk1⟩
    clear e0
    go_wp2_with fail
    go_loopw [4, 22] (fun t i wr => ∃ k : Nat, k ≤ l.length ∧ i = .int .i64 k ∧ t = .string (bs (numL l.length 2 ++ ((l.take k).map recL).flatten)) ∧ (∀ j (hj : j < l.length), j < k → mayR l[j] = true ∧ RecOk l[j]) ∧ Kept [] w wr) (fun _ i _ => l.length - (intOf i).toNat)
    case atStart => exact ⟨0, by omega, rfl, by simp, fun j _ hj => absurd hj (by omega), hk1⟩
    case round =>
      obtain ⟨k, hk, rfl, rfl, hok, hK⟩ := hrel
      have hlen := bodyTo_len hl hk (fun j hj hjk => (hok j hj hjk).2)
      by_cases hlt : k < l.length
      · obtain ⟨b', off, kv, rfl, c0, c1, c2, c3, c4, hr, hfit, _, hbh, hhw⟩ := (H.out.kept0 hK).at_ k hlt
        have hrun : l[k].runs.length ≤ 1000000 := HRL.out _ (List.getElem_mem hlt)
        obtain ⟨pk, ck, rfl⟩ := hr.shape
        have hno := fun (hm : mayR l[k] = false) => tx_no hlt hm
        have hsu : mayR l[k] = true → RecOk l[k] → ∀ j (hj : j < l.length), j < k + 1 → mayR l[j] = true ∧ RecOk l[j] := fun h1 h2 j hj hjk => by
          by_cases e : j = k
          · subst e; exact ⟨h1, h2⟩
          · exact hok j hj (by omega)
        have htk := recs_take l k hlt
        have ka : Kept [] wr (wr.alloc (.cells (l[k].cells (.slice pk l[k].runs.length ck)) 55)) := (Kept.refl _ _).alloc _
        have hch := jcheck l[k] _ lo hi _ (hr.kept0 ka) hrun hfit
        have hby := fun W (kk : Kept [] wr W) (ho : RecOk l[k]) => jbytes l[k] _ lo hi W (hr.kept0 kk) ho
        have hoo := fun (hm : mayR l[k] = true) => rec_ok (r := l[k]) hm hfit
        have hrl2 := fun (ho : RecOk l[k]) => recL_len (r := l[k]) ho
        have oA := Own.new wr (l[k].cells (.slice pk l[k].runs.length ck)) 55
        have HNO := Lib.hid hno
        have HSU := Lib.hid hsu
        have HTK := Lib.hid htk
        have HCH := Lib.hid hch
        have HBY := Lib.hid hby
        have HOO := Lib.hid hoo
        have HRL2 := Lib.hid hrl2
        have HOK := Lib.hid hok
        have HLT := Lib.hid hlt
        have HLEN := Lib.hid hlen
        have KA := Lib.hid ka
        have OA := Lib.hid oA
        have i1 : (k : Int) < l.length := by omega
        clear hno hsu htk hch hby hoo hrl2 hok hlen hr hfit hrun ka oA
        unfold JCheck at HCH
        unfold JRec.cells at HCH HBY KA OA
        generalize hm : mayR l[k] = M at *
        have HM := Lib.hid hm
        clear hm
        generalize l[k].kind = rk at *
        generalize l[k].id = ri at *
        generalize l[k].name = rn at *
        generalize l[k].size = rs at *
        generalize l[k].runs.length = rr at *
        cases M
        · have hs := HNO.out rfl
          have HS := Lib.hid hs
          clear hs
          go_wp2_with fail
          refine HCH.out.mono ?_; rintro e w2 ⟨rfl, k2⟩
          have kk := (hK.trans KA.out).trans k2
          go_wp2_with fail
          go_ret2
          exact txSays_no HS.out kk
        · have ho := HOO.out rfl
          have HO := Lib.hid ho
          have hrl3 := HRL2.out ho
          have hb2 := fun W kk => HBY.out W kk ho
          have HB2 := Lib.hid hb2
          clear ho hb2
          have y1 : (bs (recL l[k])).size ≤ 200 := by rw [bs_size]; exact hrl3
          have y0 : (bs (numL l.length 2 ++ ((l.take k).map recL).flatten)).size ≤ 200100 := by rw [bs_size]; exact HLEN.out
          have hstr : Hid (bs (numL l.length 2 ++ ((l.take k).map recL).flatten) ++ bs (recL l[k]) = bs (numL l.length 2 ++ ((l.take (k + 1)).map recL).flatten)) := by
            show _ = _; rw [bs_append, HTK.out]; simp only [List.append_assoc]; rfl
          clear hrl3
          generalize bs (recL l[k]) = RB at *
          generalize bs (numL l.length 2 ++ ((l.take k).map recL).flatten) = S0 at *
          go_wp2_with fail
          refine HCH.out.mono ?_; rintro e w2 ⟨rfl, k2⟩
          have o2 := k2.own OA.out (by simp)
          obtain ⟨d0, d1, d2, d3, d4⟩ := o2.c5
          have k02 := KA.out.trans k2
          go_wp2_with fail
          refine (HB2.out _ k02).mono ?_; rintro e w3 ⟨rfl, k3⟩
          have kk := hK.trans (k02.trans k3)
          have yy : (S0 ++ RB).size = S0.size + RB.size := ByteArray.size_append
          go_wp2_with fail
          go_roundw
          case rel => exact ⟨k + 1, HLT.out, by go_num, by rw [← hstr.out], HSU.out (by first | rfl | trivial) HO.out, kk⟩
          case measure => (have hh := HLT.out; simp [intOf]; omega)
      · obtain rfl : k = l.length := by omega
        obtain ⟨ec, eo⟩ := tx_yes (l := l) (by omega) (fun j hj => (hok j hj hj).1)
        rw [List.take_length] at hlen ⊢
        have ebody : numL l.length 2 ++ (l.map recL).flatten = bodyL l := rfl
        rw [ebody] at hlen ⊢
        have e1 := ju32_nat (bodyL l).length (by omega)
        have hz : (bs (bodyL l)).size = (bodyL l).length := bs_size _
        have hcr := crc_lt (bodyL l)
        have h1 := fun W => packU32 (bodyL l).length W (by omega)
        have h2 := fun W => csum (bs (bodyL l)) W (by rw [hz]; unfold maxLen; omega)
        have h3 := fun W => packU32 (crc (bodyL l)) W (by omega)
        rw [bs_data] at h2
        have hfin : Hid (bs (numL (bodyL l).length 4) ++ bs (numL (crc (bodyL l)) 4) ++ bs (bodyL l) = bs (txOut l)) := by
          show _ = _; rw [eo, bs_append, bs_append, List.append_assoc]; rfl
        have y1 : (bs (numL (bodyL l).length 4)).size = 4 := by rw [bs_size, numL_len]
        have y2 : (bs (numL (crc (bodyL l)) 4)).size = 4 := by rw [bs_size, numL_len]
        have y3 : (bs (bodyL l)).size ≤ 200100 := by rw [hz]; omega
        have yy : (bs (numL (bodyL l).length 4) ++ bs (numL (crc (bodyL l)) 4)).size = 8 := by rw [ByteArray.size_append, y1, y2]
        have EC := Lib.hid ec
        have H1 := Lib.hid h1
        have H2 := Lib.hid h2
        have H3 := Lib.hid h3
        have HOK := Lib.hid hok
        have hlb : ((bodyL l).length : Int) ≤ 200100 := by omega
        clear ec eo h1 h2 h3 hok ebody
        generalize bs (numL (bodyL l).length 4) = M1 at *
        generalize bs (numL (crc (bodyL l)) 4) = M2 at *
        generalize bs (bodyL l) = M3 at *
        generalize crc (bodyL l) = cr at *
        generalize (bodyL l).length = bl at *
        go_wp2_with fail
        refine (H1.out _).mono ?_; rintro e w2 ⟨rfl, k2⟩
        go_wp2_with fail
        refine (H2.out _).mono ?_; rintro e w' ⟨rfl, rfl⟩
        go_wp2_with fail
        refine (H3.out _).mono ?_; rintro e w3 ⟨rfl, k3⟩
        have kk := (hK.trans k2).trans k3
        go_wp2_with fail
        go_ret2
        exact ⟨by rw [EC.out, ← hfin.out]; rfl, kk⟩
theorem takeR_err (n : Int) (l : List UInt8) {x : Int} (h : x ≠ 0) : takeR n l x = ([], l, x) := by unfold takeR; rw [if_pos h]
theorem numR_err (k : Nat) (l : List UInt8) {x : Int} (h : x ≠ 0) : numR k l x = (0, l, x) := by unfold numR; rw [takeR_err _ _ h]; rfl
theorem takeR_no {n : Int} {l : List UInt8} {x : Int} (h : (takeR n l x).2.2 ≠ 0) : (takeR n l x).1 = [] := by
  unfold takeR at h ⊢
  split
  · rfl
  · rename_i h1
    rw [if_neg h1] at h
    split
    · rfl
    · rename_i h2
      rw [if_neg h2] at h
      split
      · rfl
      · rename_i h3
        rw [if_neg h3] at h
        exact absurd rfl h
theorem numR_no {k : Nat} {l : List UInt8} {x : Int} (h : (numR k l x).2.2 ≠ 0) : (numR k l x).1 = 0 := by
  unfold numR at h ⊢
  rw [show (takeR (k : Int) l x).1 = [] from takeR_no h]; rfl
theorem numR_pos {k : Nat} {l : List UInt8} {x : Int} (h : (numR k l x).1 ≠ 0) : (numR k l x).2.2 = 0 := by
  by_cases hx : (numR k l x).2.2 = 0
  · exact hx
  · exact absurd (numR_no hx) h
/-- what a reader gives to those kinds that have it. -/
def idR (k : Int) (l : List UInt8) (x : Int) : Nat × List UInt8 × Int := if kId k then numR 4 l x else (0, l, x)
def nmR (k : Int) (l : List UInt8) (x : Int) : List UInt8 × List UInt8 × Int := if kName k then textR l x else ([], l, x)
def szR (k : Int) (l : List UInt8) (x : Int) : Nat × List UInt8 × Int := if kBlob k then numR 4 l x else (0, l, x)
def ctR (k : Int) (l : List UInt8) (x : Int) : Nat × List UInt8 × Int := if kBlob k then numR 2 l x else (0, l, x)
/-- the next so many runs. -/
def runsR : Nat → List UInt8 → Int → List (Int × Int) × List UInt8 × Int
  | 0, l, x => ([], l, x)
  | n + 1, l, x => ((runsR n l x).1 ++ [(((numR 2 (runsR n l x).2.1 (runsR n l x).2.2).1 : Int), ((numR 2 (numR 2 (runsR n l x).2.1 (runsR n l x).2.2).2.1 (numR 2 (runsR n l x).2.1 (runsR n l x).2.2).2.2).1 : Int))],
      (numR 2 (numR 2 (runsR n l x).2.1 (runsR n l x).2.2).2.1 (numR 2 (runsR n l x).2.1 (runsR n l x).2.2).2.2).2)
theorem runsR_len (n : Nat) (l : List UInt8) (x : Int) : (runsR n l x).1.length = n := by
  induction n with
  | zero => rfl
  | succ n ih => rw [runsR, List.length_append, ih]; rfl
theorem runsR_err {n m : Nat} {l : List UInt8} {x : Int} (h : (runsR n l x).2.2 ≠ 0) (hm : n ≤ m) : (runsR m l x).2.2 ≠ 0 := by
  induction m with
  | zero =>
    have : n = 0 := by omega
    subst this; exact h
  | succ m ih =>
    by_cases e : n = m + 1
    · subst e; exact h
    · have h1 := ih (by omega)
      rw [runsR]
      simp only
      rw [numR_err 2 _ h1]
      simp only
      rw [numR_err 2 _ h1]
      exact h1
theorem runsR_bd (n : Nat) (l : List UInt8) (x : Int) : ∀ a ∈ (runsR n l x).1, 0 ≤ a.1 ∧ a.1 < 65536 ∧ 0 ≤ a.2 ∧ a.2 < 65536 := by
  induction n with
  | zero => intro a ha; cases ha
  | succ n ih =>
    intro a ha
    rw [runsR] at ha
    rcases List.mem_append.1 ha with h | h
    · exact ih a h
    · have e := List.mem_singleton.1 h
      subst e
      have h1 := numR_lt 2 (runsR n l x).2.1 (runsR n l x).2.2
      have h2 := numR_lt 2 (numR 2 (runsR n l x).2.1 (runsR n l x).2.2).2.1 (numR 2 (runsR n l x).2.1 (runsR n l x).2.2).2.2
      simp only
      omega
/-- the numbers ahead of a record's runs. -/
def kdR (l : List UInt8) : Nat × List UInt8 × Int := numR 1 l 0
def iR (l : List UInt8) : Nat × List UInt8 × Int := idR (kdR l).1 (kdR l).2.1 (kdR l).2.2
def tR (l : List UInt8) : List UInt8 × List UInt8 × Int := nmR (kdR l).1 (iR l).2.1 (iR l).2.2
def zR (l : List UInt8) : Nat × List UInt8 × Int := szR (kdR l).1 (tR l).2.1 (tR l).2.2
def nR (l : List UInt8) : Nat × List UInt8 × Int := ctR (kdR l).1 (zR l).2.1 (zR l).2.2
/-- the next record, of which m runs are read. -/
def oneR (m : Nat) (l : List UInt8) : JRec × List UInt8 × Int :=
  (⟨(kdR l).1, (iR l).1, (tR l).1, (zR l).1, (runsR m (nR l).2.1 (nR l).2.2).1⟩, (runsR m (nR l).2.1 (nR l).2.2).2)
/-- the next record that may be, and what is behind it. -/
def recO (l : List UInt8) : Option (JRec × List UInt8) := if (oneR (nR l).1 l).2.2 = 0 ∧ mayR (oneR (nR l).1 l).1 = true then some ((oneR (nR l).1 l).1, (oneR (nR l).1 l).2.1) else none
theorem mayR_few {r : JRec} (h : mayR r = true) : r.runs.length ≤ 16 := by
  unfold mayR mayG at h
  simp only [Bool.and_eq_true, decide_eq_true_eq] at h
  have h7 := h.2.2.2.2.2.2
  unfold plB at h7
  simp only [Bool.and_eq_true, decide_eq_true_eq] at h7
  exact h7.1
/-- it does not matter that at most 17 runs are read. -/
theorem recO_few (l : List UInt8) : recO l = if (oneR (min (nR l).1 17) l).2.2 = 0 ∧ mayR (oneR (min (nR l).1 17) l).1 = true then some ((oneR (min (nR l).1 17) l).1, (oneR (min (nR l).1 17) l).2.1) else none := by
  by_cases h : (nR l).1 ≤ 17
  · rw [Nat.min_eq_left h]; rfl
  · rw [Nat.min_eq_right (by omega)]
    unfold recO
    rw [if_neg, if_neg]
    · rintro ⟨_, h2⟩
      have := mayR_few h2
      simp only [oneR, runsR_len] at this
      omega
    · rintro ⟨_, h2⟩
      have := mayR_few h2
      simp only [oneR, runsR_len] at this
      omega
theorem recO_yes {l : List UInt8} (h : (oneR (nR l).1 l).2.2 = 0) (hm : mayR (oneR (nR l).1 l).1 = true) : recO l = some ((oneR (nR l).1 l).1, (oneR (nR l).1 l).2.1) := by
  unfold recO; rw [if_pos ⟨h, hm⟩]
theorem recO_err {l : List UInt8} {m : Nat} (h : (oneR m l).2.2 ≠ 0) (hm : m ≤ (nR l).1) : recO l = none := by
  unfold recO
  rw [if_neg]
  rintro ⟨h1, _⟩
  exact runsR_err (n := m) h hm h1
theorem recO_may {l : List UInt8} (h : mayR (oneR (nR l).1 l).1 = false) : recO l = none := by
  unfold recO
  rw [if_neg]
  rintro ⟨_, h1⟩
  rw [h] at h1; cases h1
theorem idR_fits (k : Int) (l : List UInt8) (x : Int) : (Lit.int .u32 ((idR k l x).1 : Int)).wf = true := by
  have h : (idR k l x).1 < 4294967296 := by
    unfold idR
    split
    · exact numR_lt 4 l x
    · exact Nat.zero_lt_succ _
  simp only [Lit.wf, Bool.and_eq_true, decide_eq_true_eq]
  exact ⟨by show (0 : Int) ≤ _; omega, by show _ ≤ (4294967295 : Int); omega⟩
theorem lenR_most (m : Nat) (l : List UInt8) (x : Int) : (lenR m l x).1 ≤ m := by
  unfold lenR
  simp only
  split
  · exact Nat.zero_le _
  · omega
theorem textR_short (l : List UInt8) (x : Int) : (textR l x).1.length ≤ 65536 := by
  unfold textR
  simp only
  have h1 := takeR_len (lenR 65536 l x).1 (lenR 65536 l x).2.1 (lenR 65536 l x).2.2
  have h2 := lenR_most 65536 l x
  omega
theorem nmR_short (k : Int) (l : List UInt8) (x : Int) : (nmR k l x).1.length ≤ 65536 := by
  unfold nmR
  split
  · exact textR_short l x
  · simp
theorem szR_lt (k : Int) (l : List UInt8) (x : Int) : (szR k l x).1 < 4294967296 := by
  unfold szR
  split
  · exact numR_lt 4 l x
  · exact Nat.zero_lt_succ _
theorem ctR_lt (k : Int) (l : List UInt8) (x : Int) : (ctR k l x).1 < 65536 := by
  unfold ctR
  split
  · exact numR_lt 2 l x
  · exact Nat.zero_lt_succ _
theorem wf64 {n : Int} (h1 : -9223372036854775808 ≤ n) (h2 : n ≤ 9223372036854775807) : (Lit.int .i64 n).wf = true := by
  simp only [Lit.wf, Bool.and_eq_true, decide_eq_true_eq]
  exact ⟨h1, h2⟩
theorem oneR_fits (m : Nat) (l : List UInt8) : (oneR m l).1.fits := by
  refine ⟨?_, idR_fits _ _ _, ?_, ?_⟩
  · have : (kdR l).1 < 256 := numR_lt 1 l 0
    exact wf64 (by show _ ≤ ((kdR l).1 : Int); omega) (by show ((kdR l).1 : Int) ≤ _; omega)
  · have : (tR l).1.length ≤ 65536 := nmR_short _ _ _
    show (tR l).1.length ≤ maxLen
    unfold maxLen; omega
  · have : (zR l).1 < 4294967296 := szR_lt _ _ _
    exact wf64 (by show _ ≤ ((zR l).1 : Int); omega) (by show ((zR l).1 : Int) ≤ _; omega)
/-- so many records that may be, and what is behind them. -/
def recsO : Nat → List UInt8 → Option (List JRec × List UInt8)
  | 0, s => some ([], s)
  | n + 1, s => match recsO n s with
    | none => none
    | some (o, r) => match recO r with
      | none => none
      | some (x, r') => some (o ++ [x], r')
theorem recsO_step {n : Nat} {s r r' : List UInt8} {o : List JRec} {x : JRec} (h : recsO n s = some (o, r)) (hx : recO r = some (x, r')) : recsO (n + 1) s = some (o ++ [x], r') := by
  rw [recsO, h]; simp only; rw [hx]
theorem recsO_stop {n m : Nat} {s r : List UInt8} {o : List JRec} (h : recsO n s = some (o, r)) (hx : recO r = none) (hm : n < m) : recsO m s = none := by
  induction m with
  | zero => omega
  | succ m ih =>
    by_cases e : n = m
    · subst e; rw [recsO, h]; simp only; rw [hx]
    · rw [recsO, ih (by omega)]
/-- a transaction's records. -/
def bodyO (s : List UInt8) : Option (List JRec) :=
  if 1 ≤ (numR 2 s 0).1 ∧ (numR 2 s 0).1 ≤ 8192 then (match recsO (numR 2 s 0).1 (numR 2 s 0).2.1 with
    | some (o, []) => some o
    | _ => none) else none
theorem bodyO_n {s : List UInt8} (h : ¬ (1 ≤ (numR 2 s 0).1 ∧ (numR 2 s 0).1 ≤ 8192)) : bodyO s = none := by unfold bodyO; rw [if_neg h]
theorem bodyO_none {s : List UInt8} (h : recsO (numR 2 s 0).1 (numR 2 s 0).2.1 = none) : bodyO s = none := by
  unfold bodyO; split
  · rw [h]
  · rfl
theorem bodyO_left {s r : List UInt8} {o : List JRec} (h : recsO (numR 2 s 0).1 (numR 2 s 0).2.1 = some (o, r)) (hr : r ≠ []) : bodyO s = none := by
  unfold bodyO; split
  · rw [h]
    cases r with
    | nil => exact absurd rfl hr
    | cons a t => rfl
  · rfl
theorem bodyO_yes {s : List UInt8} {o : List JRec} (h1 : 1 ≤ (numR 2 s 0).1) (h2 : (numR 2 s 0).1 ≤ 8192) (h : recsO (numR 2 s 0).1 (numR 2 s 0).2.1 = some (o, [])) : bodyO s = some o := by
  unfold bodyO; rw [if_pos ⟨h1, h2⟩, h]
/-- the next transaction's parts: its size, its sum, its bytes. -/
def aR (s : List UInt8) : Nat × List UInt8 × Int := numR 4 s 0
def cR (s : List UInt8) : Nat × List UInt8 × Int := numR 4 (aR s).2.1 (aR s).2.2
def bR (s : List UInt8) : List UInt8 × List UInt8 × Int := takeR (aR s).1 (cR s).2.1 (cR s).2.2
def txO (s : List UInt8) : Option (List JRec × List UInt8) := match bodyO (bR s).1 with
  | none => none
  | some o => if (bR s).2.2 = 0 ∧ crc (bR s).1 = (cR s).1 then some (o, (bR s).2.1) else none
theorem txO_body {s : List UInt8} (h : bodyO (bR s).1 = none) : txO s = none := by unfold txO; rw [h]
theorem txO_err {s : List UInt8} (h : (bR s).2.2 ≠ 0) : txO s = none := by
  unfold txO
  split
  · rfl
  · rw [if_neg (fun hh => h hh.1)]
theorem txO_sum {s : List UInt8} (h : crc (bR s).1 ≠ (cR s).1) : txO s = none := by
  unfold txO
  split
  · rfl
  · rw [if_neg (fun hh => h hh.2)]
theorem txO_yes {s : List UInt8} {o : List JRec} (h : bodyO (bR s).1 = some o) (h2 : (bR s).2.2 = 0) (h3 : crc (bR s).1 = (cR s).1) : txO s = some (o, (bR s).2.1) := by
  unfold txO; rw [h]; simp only; rw [if_pos ⟨h2, h3⟩]
theorem numR_ok {k : Nat} {l : List UInt8} {x : Int} (h : (numR k l x).2.2 = 0) : x = 0 ∧ (numR k l x).2.1.length + k = l.length := by
  unfold numR at h ⊢
  obtain ⟨h1, h2, h3⟩ := takeR_ok (n := k) h
  have h4 := congrArg List.length h3
  rw [List.length_append, h2] at h4
  exact ⟨h1, by show (takeR (k : Int) l x).2.1.length + k = _; omega⟩
theorem bR_less {s : List UInt8} (h : (bR s).2.2 = 0) : (bR s).1.length = (aR s).1 ∧ (bR s).1.length + (bR s).2.1.length + 8 ≤ s.length := by
  have e : bR s = takeR (aR s).1 (cR s).2.1 (cR s).2.2 := rfl
  rw [e] at h ⊢
  obtain ⟨h1, h2, h3⟩ := takeR_ok h
  have h4 := congrArg List.length h3
  rw [List.length_append] at h4
  refine ⟨h2, ?_⟩
  obtain ⟨h5, h6⟩ := numR_ok (k := 4) (l := (aR s).2.1) (x := (aR s).2.2) h1
  obtain ⟨h7, h8⟩ := numR_ok (k := 4) (l := s) (x := 0) h5
  have e2 : (numR 4 (aR s).2.1 (aR s).2.2).2.1 = (cR s).2.1 := rfl
  have e3 : (numR 4 s 0).2.1 = (aR s).2.1 := rfl
  rw [e2] at h6
  rw [e3] at h8
  omega
theorem txO_less {s r : List UInt8} {o : List JRec} (h : txO s = some (o, r)) : r.length + 8 ≤ s.length := by
  unfold txO at h
  split at h
  · cases h
  · split at h
    · rename_i hc
      injection h with h
      injection h with _ h
      have := (bR_less hc.1).2
      rw [← h]; omega
    · cases h
/-- all transactions. -/
def readF : Nat → List UInt8 → Option (List (List JRec))
  | 0, s => if s = [] then some [] else none
  | f + 1, s => if s = [] then some [] else (txO s).bind fun p => (readF f p.2).map fun ls => p.1 :: ls
theorem readF_fuel (f g : Nat) (s : List UInt8) (hf : s.length ≤ f) (hg : s.length ≤ g) : readF f s = readF g s := by
  induction f generalizing g s with
  | zero =>
    have : s = [] := List.eq_nil_of_length_eq_zero (by omega)
    subst this
    cases g <;> simp [readF]
  | succ f ih =>
    cases g with
    | zero =>
      have : s = [] := List.eq_nil_of_length_eq_zero (by omega)
      subst this
      simp [readF]
    | succ g =>
      rw [readF, readF]
      split
      · rfl
      · cases ht : txO s with
        | none => rfl
        | some x =>
          obtain ⟨o, r⟩ := x
          have := txO_less ht
          simp only [Option.bind_some]
          rw [ih g r (by omega) (by omega)]
def readO (s : List UInt8) : Option (List (List JRec)) := readF s.length s
theorem readO_nil : readO [] = some [] := rfl
theorem readO_none {s : List UInt8} (hs : s ≠ []) (h : txO s = none) : readO s = none := by
  have hl : 0 < s.length := List.length_pos_iff.2 hs
  obtain ⟨f, hf⟩ : ∃ f, s.length = f + 1 := ⟨s.length - 1, by omega⟩
  unfold readO
  rw [hf, readF, if_neg hs, h]
  rfl
theorem readO_step {s r : List UInt8} {o : List JRec} (hs : s ≠ []) (h : txO s = some (o, r)) : readO s = (readO r).map (fun ls => o :: ls) := by
  have hl : 0 < s.length := List.length_pos_iff.2 hs
  obtain ⟨f, hf⟩ : ∃ f, s.length = f + 1 := ⟨s.length - 1, by omega⟩
  have := txO_less h
  unfold readO
  rw [hf, readF, if_neg hs, h]
  simp only [Option.bind_some]
  rw [readF_fuel f r.length r (by omega) (Nat.le_refl _)]
/-- where a reading of all stands: what is read yet, and what is left. -/
def ReadAt (s0 : List UInt8) (out : List (List JRec)) (s : List UInt8) : Prop := readO s0 = (readO s).map (fun ls => out ++ ls)
theorem ReadAt.start (s : List UInt8) : ReadAt s [] s := by unfold ReadAt; cases readO s <;> rfl
theorem ReadAt.step {s0 s r : List UInt8} {out : List (List JRec)} {o : List JRec} (h : ReadAt s0 out s) (hs : s ≠ []) (ht : txO s = some (o, r)) : ReadAt s0 (out ++ [o]) r := by
  unfold ReadAt at h ⊢
  rw [h, readO_step hs ht]
  cases readO r <;> simp
theorem ReadAt.end_ {s0 s : List UInt8} {out : List (List JRec)} (h : ReadAt s0 out s) (hs : s = []) : readO s0 = some out := by
  unfold ReadAt at h
  subst hs
  rw [h, readO_nil]; simp
theorem ReadAt.no {s0 s : List UInt8} {out : List (List JRec)} (h : ReadAt s0 out s) (hs : s ≠ []) (ht : txO s = none) : readO s0 = none := by
  unfold ReadAt at h
  rw [h, readO_none hs ht]; rfl
/-! ### what was laid is read -/
theorem numR_lay' {n k : Nat} (r : List UInt8) (h : n < 256 ^ k) : numR k (numL n k ++ r) 0 = (n, r, 0) := by rw [numR_lay, Nat.mod_eq_of_lt h]
theorem runsR_lay (l : List (Int × Int)) (h : RunsFit l) (r : List UInt8) (k : Nat) (hk : k ≤ l.length) : runsR k (jrunsL l ++ r) 0 = (l.take k, jrunsL (l.drop k) ++ r, 0) := by
  induction k with
  | zero => simp [runsR]
  | succ k ih =>
    have hlt : k < l.length := by omega
    obtain ⟨a1, a2, b1, b2⟩ := h.2 k hlt
    have e1 : l.drop k = l[k] :: l.drop (k + 1) := List.drop_eq_getElem_cons hlt
    have e2 : jrunsL (l.drop k) ++ r = numL l[k].1.toNat 2 ++ (numL l[k].2.toNat 2 ++ (jrunsL (l.drop (k + 1)) ++ r)) := by
      rw [e1]; unfold jrunsL; rw [List.map_cons, List.flatten_cons]; simp only [List.append_assoc]
    rw [runsR, ih (by omega)]
    simp only
    rw [e2, numR_lay' _ (by omega)]
    simp only
    rw [numR_lay' _ (by omega)]
    simp only
    rw [List.take_succ_eq_append_getElem hlt, Int.toNat_of_nonneg a1, Int.toNat_of_nonneg b1]
theorem mayR_parts {r : JRec} (h : mayR r = true) : (kId r.kind = false → r.id = 0) ∧ (kName r.kind = false → r.name = []) ∧ (kBlob r.kind = false → r.size = 0 ∧ r.runs = []) := by
  unfold mayR mayG at h
  simp only [Bool.and_eq_true, Bool.or_eq_true, decide_eq_true_eq, beq_iff_eq] at h
  obtain ⟨h1, h2, h3, h4, h5, h6, h7⟩ := h
  refine ⟨fun e => ?_, fun e => ?_, fun e => ?_⟩
  · rw [e] at h2
    have := of_decide_eq_false h2.symm
    omega
  · rw [e] at h4
    cases hn : r.name with
    | nil => rfl
    | cons a t => rw [hn] at h4; cases h4
  · rcases h6 with h6 | ⟨h6, h8⟩
    · rw [e] at h6; cases h6
    · exact ⟨h6, List.isEmpty_iff.1 h8⟩
theorem recO_lay {r : JRec} (h : mayR r = true) (hf : r.fits) (rest : List UInt8) : recO (recL r ++ rest) = some (r, rest) := by
  have ok := rec_ok h hf
  obtain ⟨p1, p2, p3⟩ := mayR_parts h
  obtain ⟨k1, k6, i0, i1, nm, s0, s1, rf⟩ := ok
  have hk : kdR (recL r ++ rest) = (r.kind.toNat, (if kId r.kind then numL r.id.toNat 4 else []) ++ ((if kName r.kind then textL r.name else []) ++ ((if kBlob r.kind then numL r.size.toNat 4 ++ qrunsL r.runs else []) ++ rest)), 0) := by
    unfold kdR recL
    rw [List.append_assoc, numR_lay' _ (by omega)]
    simp only [List.append_assoc]
  have ek : (((r.kind.toNat : Nat)) : Int) = r.kind := by omega
  have hi : iR (recL r ++ rest) = (r.id.toNat, (if kName r.kind then textL r.name else []) ++ ((if kBlob r.kind then numL r.size.toNat 4 ++ qrunsL r.runs else []) ++ rest), 0) := by
    unfold iR
    rw [hk]
    simp only [ek]
    unfold idR
    cases hI : kId r.kind
    · have := p1 hI
      simp [this]
    · simp only [if_true]
      rw [numR_lay' _ (by omega)]
  have ht : tR (recL r ++ rest) = (r.name, (if kBlob r.kind then numL r.size.toNat 4 ++ qrunsL r.runs else []) ++ rest, 0) := by
    unfold tR
    rw [hk, hi]
    simp only [ek]
    unfold nmR
    cases hN : kName r.kind
    · have := p2 hN
      simp [this]
    · simp only [if_true]
      rw [textR_lay _ _ (by omega)]
  have hz : zR (recL r ++ rest) = (r.size.toNat, (if kBlob r.kind then qrunsL r.runs else []) ++ rest, 0) := by
    unfold zR
    rw [hk, ht]
    simp only [ek]
    unfold szR
    cases hB : kBlob r.kind
    · have := (p3 hB).1
      simp [this]
    · simp only [if_true, List.append_assoc]
      rw [numR_lay' _ (by omega)]
  have hn : nR (recL r ++ rest) = (r.runs.length, jrunsL r.runs ++ rest, 0) := by
    unfold nR
    rw [hk, hz]
    simp only [ek]
    unfold ctR
    cases hB : kBlob r.kind
    · have := (p3 hB).2
      simp [this, jrunsL]
    · simp only [if_true]
      unfold qrunsL
      rw [List.append_assoc, numR_lay' _ (by have := rf.1; omega)]
  have hone : oneR (nR (recL r ++ rest)).1 (recL r ++ rest) = (r, rest, 0) := by
    unfold oneR
    rw [hn, hk, hi, ht, hz]
    simp only
    rw [runsR_lay r.runs rf rest _ (Nat.le_refl _)]
    have e1 : ((r.kind.toNat : Nat) : Int) = r.kind := ek
    have e2 : ((r.id.toNat : Nat) : Int) = r.id := by omega
    have e3 : ((r.size.toNat : Nat) : Int) = r.size := by omega
    simp [e1, e2, e3, jrunsL]
  rw [recO_yes (by rw [hone]) (by rw [hone]; exact h), hone]
theorem recsO_lay (l : List JRec) (h : ∀ r ∈ l, mayR r = true ∧ r.fits) (rest : List UInt8) (k : Nat) (hk : k ≤ l.length) : recsO k ((l.map recL).flatten ++ rest) = some (l.take k, ((l.drop k).map recL).flatten ++ rest) := by
  induction k with
  | zero => simp [recsO]
  | succ k ih =>
    have hlt : k < l.length := by omega
    obtain ⟨h1, h2⟩ := h _ (List.getElem_mem hlt)
    have e1 : l.drop k = l[k] :: l.drop (k + 1) := List.drop_eq_getElem_cons hlt
    have e2 : ((l.drop k).map recL).flatten ++ rest = recL l[k] ++ (((l.drop (k + 1)).map recL).flatten ++ rest) := by
      rw [e1, List.map_cons, List.flatten_cons, List.append_assoc]
    rw [recsO_step (ih (by omega)) (by rw [e2]; exact recO_lay h1 h2 _), List.take_succ_eq_append_getElem hlt]
theorem bodyO_lay (l : List JRec) (h : ∀ r ∈ l, mayR r = true ∧ r.fits) (h1 : 1 ≤ l.length) (h2 : l.length ≤ 8192) : bodyO (bodyL l) = some l := by
  have e : numR 2 (bodyL l) 0 = (l.length, (l.map recL).flatten, 0) := by
    unfold bodyL
    rw [numR_lay' _ (by omega)]
  have hr := recsO_lay l h [] l.length (Nat.le_refl _)
  simp only [List.append_nil, List.take_length, List.drop_length, List.map_nil, List.flatten_nil] at hr
  exact bodyO_yes (by rw [e]; exact h1) (by rw [e]; exact h2) (by rw [e]; exact hr)
theorem bodyL_len {l : List JRec} (h : ∀ r ∈ l, RecOk r) : (bodyL l).length ≤ 2 + 200 * l.length := by
  have := recs_len h
  unfold bodyL
  rw [List.length_append, numL_len]; omega
theorem txO_lay (l : List JRec) (h : ∀ r ∈ l, mayR r = true ∧ r.fits) (h1 : 1 ≤ l.length) (h2 : l.length ≤ 8192) (rest : List UInt8) : txO (txL l ++ rest) = some (l, rest) := by
  have hb := bodyL_len (l := l) (fun r hr => rec_ok (h r hr).1 (h r hr).2)
  have ha : aR (txL l ++ rest) = ((bodyL l).length, numL (crc (bodyL l)) 4 ++ (bodyL l ++ rest), 0) := by
    unfold aR txL
    rw [List.append_assoc, numR_lay' _ (by omega), List.append_assoc]
  have hc : cR (txL l ++ rest) = (crc (bodyL l), bodyL l ++ rest, 0) := by
    unfold cR
    rw [ha]
    simp only
    rw [numR_lay' _ (crc_lt _)]
  have ht : bR (txL l ++ rest) = (bodyL l, rest, 0) := by
    unfold bR
    rw [ha, hc]
    simp only
    exact takeR_lay _ _ _ rfl
  have := txO_yes (s := txL l ++ rest) (o := l) (by rw [ht]; exact bodyO_lay l h h1 h2) (by rw [ht]) (by rw [ht, hc])
  rw [this, ht]
theorem txL_ne (l : List JRec) (rest : List UInt8) : txL l ++ rest ≠ [] := by
  intro e
  have := congrArg List.length e
  unfold txL at this
  rw [List.length_append, List.length_append, numL_len] at this
  simp at this
theorem readO_lay (ls : List (List JRec)) (h : ∀ l ∈ ls, (∀ r ∈ l, mayR r = true ∧ r.fits) ∧ 1 ≤ l.length ∧ l.length ≤ 8192) : readO (ls.map txL).flatten = some ls := by
  induction ls with
  | nil => rfl
  | cons a t ih =>
    obtain ⟨h1, h2, h3⟩ := h a List.mem_cons_self
    rw [List.map_cons, List.flatten_cons, readO_step (txL_ne _ _) (txO_lay a h1 h2 h3 _), ih (fun l hl => h l (List.mem_cons_of_mem _ hl))]
    rfl
end Go.Proofs.YtakdnchmehmdhaaGreat
