/- Layer 13 (journal): any bytes read; transactions' bytes, one behind another. -/
import Derived.Test.YtegbekeopgponaaG37
import Derived.ProofKit
import Derived.OpenShut
namespace Go.Proofs.Ytegbekeopgponaa
open Go.ChangeShapes Go.WideShapes Go.ChangeAt Go.RowKit Go.Deep
set_option linter.unusedVariables false
set_option linter.unusedSimpArgs false

theorem recsO_may {n : Nat} {s r : List UInt8} {o : List JRec} (h : recsO n s = some (o, r)) : ∀ x ∈ o, mayR x = true := by
  induction n generalizing o r with
  | zero =>
    rw [recsO] at h
    injection h with h
    injection h with h _
    subst h
    intro x hx; cases hx
  | succ n ih =>
    rw [recsO] at h
    split at h
    · cases h
    · rename_i o1 r1 h1
      split at h
      · cases h
      · rename_i x1 r2 h2
        injection h with h
        injection h with h _
        subst h
        intro x hx
        rcases List.mem_append.1 hx with hx | hx
        · exact ih h1 x hx
        · have hx : x = x1 := by simpa using hx
          subst hx
          unfold recO at h2
          split at h2
          · rename_i hc
            injection h2 with h2
            injection h2 with h2 _
            subst h2
            exact hc.2
          · cases h2
theorem bodyO_may {s : List UInt8} {o : List JRec} (h : bodyO s = some o) : ∀ x ∈ o, mayR x = true := by
  unfold bodyO at h
  split at h
  · split at h
    · rename_i h1
      injection h with h
      subst h
      exact recsO_may h1
    · cases h
  · cases h
theorem readF_may (f : Nat) {s : List UInt8} {ls : List (List JRec)} (h : readF f s = some ls) : ∀ l ∈ ls, ∀ x ∈ l, mayR x = true := by
  induction f generalizing s ls with
  | zero =>
    rw [readF] at h
    split at h
    · injection h with h
      subst h
      intro l hl; cases hl
    · cases h
  | succ f ih =>
    rw [readF] at h
    split at h
    · injection h with h
      subst h
      intro l hl; cases hl
    · cases ht : txO s with
      | none => rw [ht] at h; cases h
      | some p =>
        obtain ⟨o, r⟩ := p
        rw [ht] at h
        simp only [Option.bind_some] at h
        cases hr : readF f r with
        | none => rw [hr] at h; cases h
        | some ls' =>
          rw [hr] at h
          simp only [Option.map_some] at h
          injection h with h
          subst h
          intro l hl
          rcases List.mem_cons.1 hl with e | hl
          · subst e
            unfold txO at ht
            split at ht
            · cases ht
            · rename_i h1
              split at ht
              · injection ht with ht
                injection ht with ht _
                subst ht
                exact bodyO_may h1
              · cases ht
          · exact ih hr l hl
theorem readO_few {s : List UInt8} {ls : List (List JRec)} (h : readO s = some ls) : ∀ l ∈ ls, ∀ x ∈ l, x.runs.length ≤ 1000000 := fun l hl x hx => by
  have := mayR_few (readF_may _ h l hl x hx)
  omega
set_option maxRecDepth 100000 in
set_option maxHeartbeats 4000000 in
theorem readsLaw (a : ByteArray) (w : World) (ha : a.size ≤ maxLen) :
    Calls Try.prog 3 #[.string a] w fun e w' => e = .returned (.bool true) ∧ Below w.heap.size w w' := by
  obtain ⟨l, rfl⟩ : ∃ l, a = bs l := ⟨a.data.toList, (bs_of a).symm⟩
  have hz : ((bs l).size : Int) = l.length := by rw [bs_size]
  have haw := fun W => jawake W
  have HAW := Lib.hid haw
  clear haw
  by_cases hbig : 2000 < l.length
  · have hb : (2000 : Int) < ((bs l).size : Int) := by omega
    clear hz hbig ha
    go_enter Try.func3, Try.ntmps3
    go_wp2_with fail
    refine (HAW.out _).mono ?_; rintro e w1 ⟨rfl, k1⟩
    go_wp2_with fail
    go_ret
    exact ⟨rfl, k1.below⟩
  · have hb : ((bs l).size : Int) ≤ 2000 := by omega
    have hr := fun W => jread l W (by omega)
    have hq := fun W => qread l W (by omega)
    have hfew := fun ls h => readO_few (s := l) (ls := ls) h
    have HR := Lib.hid hr
    have HQ := Lib.hid hq
    have HFEW := Lib.hid hfew
    clear hr hq hbig hz ha hfew
    unfold ReadSays at HR
    unfold QReadSays at HQ
    generalize readO l = RO at *
    generalize bs l = T at *
    go_enter Try.func3, Try.ntmps3
    go_wp2_with fail
    refine (HR.out _).mono ?_; rintro e w1 ⟨hc, k1⟩
    rcases hc with ⟨ls, v, hls, hrow, rfl⟩ | ⟨hno, rfl⟩
    · subst hls
      obtain ⟨p, c, rfl⟩ := hrow.shape
      have HROW := Lib.hid hrow
      clear HR hrow
      go_wp2_with fail
      refine (HQ.out _).mono ?_; rintro e w2 ⟨hc, k2⟩
      rcases hc with ⟨ls2, v2, hls2, hrow2, rfl⟩ | ⟨hno, _⟩
      · have hls2 : ls = ls2 := by injection hls2
        subst hls2
        have hall := jall _ _ ls _ _ _ _ w2 ((HROW.out.kept0 k2).in_) hrow2.in_ (HFEW.out ls rfl)
        obtain ⟨p2, c2, rfl⟩ := hrow2.shape
        have HALL := Lib.hid hall
        clear HQ hrow2 hall HFEW
        go_wp2_with fail
        refine HALL.out.mono ?_; rintro e w3 ⟨rfl, k3⟩
        go_wp2_with fail
        refine (HAW.out _).mono ?_; rintro e w4 ⟨rfl, k4⟩
        have kk := ((k1.trans k2).trans k3).trans k4
        go_wp2_with fail
        go_ret
        exact ⟨rfl, kk.below⟩
      · cases hno
    · subst hno
      clear HR
      go_wp2_with fail
      refine (HQ.out _).mono ?_; rintro e w2 ⟨hc, k2⟩
      rcases hc with ⟨ls2, v2, hls2, hrow2, rfl⟩ | ⟨_, rfl⟩
      · cases hls2
      · clear HQ HFEW
        go_wp2_with fail
        refine (HAW.out _).mono ?_; rintro e w4 ⟨rfl, k4⟩
        have kk := (k1.trans k2).trans k4
        go_wp2_with fail
        go_ret
        exact ⟨rfl, kk.below⟩
section
variable {H : Type} {enc : TypeId × Value → H} {w : World} {base : Nat} {held : Bool} {r : Reach} {b0 : Nat}
theorem recs_of_trod {fuel : Nat} {c : Value} {x : DataW H × List MemPlace} (h : DataW.trod enc Try.prog w base (fun _ => true) held fuel 32 [c] = some x) : ∃ l, RecsIn w c l 0 w.heap.size :=
  rows_of_trod (R := RecCells 0 w.heap.size) Try.underlying32 (by kernel_rfl) (by omega) (fun n cs y => rec_of_trod) h
theorem recs_elem {n : Nat} {cs : List Value} {y : DataW H × List MemPlace} (hy : DataW.trod enc Try.prog w base (fun _ => true) held n 32 cs = some y) (hl : cs.length = 1) : ∃ l : List JRec, ∃ kv lo' hi', cs = [kv] ∧ RecsIn w kv l lo' hi' := by
  match cs, hl with
  | [c], _ =>
    obtain ⟨l, hl⟩ := recs_of_trod hy
    exact ⟨l, c, _, _, rfl, hl⟩
set_option maxRecDepth 100000 in
theorem open_txs {v : Value} {d : DataW H} {p : List MemPlace} (hv : Value.okWide Try.prog w r b0 23 v) (h : DataW.Trod enc Try.prog w base (fun _ => true) held 23 v d p) : ∃ l, TxsIn w v l 0 w.heap.size := by
  obtain ⟨a0, len, cap, rfl⟩ := okWide_slice Try.underlying23 hv
  obtain ⟨fuel, hf⟩ := h
  exact rows_of_trod (R := fun w cs l => ∃ kv lo' hi', cs = [kv] ∧ RecsIn w kv l lo' hi') Try.underlying23 (by kernel_rfl) (by omega) (fun n cs y hy hl => recs_elem hy hl) (by simpa [Value.cells] using hf)
end
theorem RecsIn.fits {w : World} {v : Value} {l : List JRec} {lo hi : Nat} (h : RecsIn w v l lo hi) : ∀ r ∈ l, r.fits := fun r hr => by
  obtain ⟨i, hi', rfl⟩ := List.mem_iff_getElem.1 hr
  obtain ⟨p, c, rfl⟩ := h.shape
  obtain ⟨_, _, _, _, _, _, _, _, _, _, hf, _⟩ := h.at_ i hi'
  exact hf
theorem txCode_ok {l : List JRec} (h : txCode l = 0) : 1 ≤ l.length ∧ ∀ r ∈ l, mayR r = true := by
  unfold txCode at h
  split at h
  · omega
  · split at h
    · rename_i h1 h2
      exact ⟨by omega, List.all_eq_true.1 h2⟩
    · omega
/-- what the loop of JournalJoins keeps: the lists so far, and their bytes. -/
structure JoinSt (w0 wr : World) (v3 : Value) (ws : List (List JRec × Value)) : Prop where
  row : wr.ownsRow w0.heap.size 32 1 v3 ws.length (ws.map (·.2))
  each : ∀ x ∈ ws, (∃ lo hi, RecsIn w0 x.2 x.1 lo hi) ∧ (∀ r ∈ x.1, mayR r = true ∧ r.fits) ∧ 1 ≤ x.1.length ∧ x.1.length ≤ 30
  kept : Kept [] w0 wr
def joinL (ws : List (List JRec × Value)) : List UInt8 := ((ws.map (·.1)).map txL).flatten
theorem joinL_snoc (ws : List (List JRec × Value)) (l : List JRec) (v : Value) : joinL (ws ++ [(l, v)]) = joinL ws ++ txL l := by simp [joinL]
theorem txL_len {l : List JRec} (h : ∀ r ∈ l, mayR r = true ∧ r.fits) (hl : l.length ≤ 30) : (txL l).length ≤ 6010 := by
  have := bodyL_len (l := l) (fun r hr => rec_ok (h r hr).1 (h r hr).2)
  unfold txL
  rw [List.length_append, List.length_append, numL_len, numL_len]
  omega
theorem JoinSt.len {w0 wr : World} {v3 : Value} {ws : List (List JRec × Value)} (h : JoinSt w0 wr v3 ws) : (joinL ws).length ≤ 6010 * ws.length := by
  have he := h.each
  clear h
  induction ws with
  | nil => simp [joinL]
  | cons a t ih =>
    have h1 := he a List.mem_cons_self
    have h2 := txL_len h1.2.1 h1.2.2.2
    have h3 := ih (fun x hx => he x (List.mem_cons_of_mem _ hx))
    have e : joinL (a :: t) = txL a.1 ++ joinL t := by simp [joinL]
    rw [e, List.length_append, List.length_cons]
    omega
theorem JoinSt.in_ {w0 wr : World} {v3 : Value} {ws : List (List JRec × Value)} (h : JoinSt w0 wr v3 ws) : TxsIn wr v3 (ws.map (·.1)) w0.heap.size wr.heap.size := by
  by_cases h0 : ws = []
  · subst h0
    obtain ⟨p, c, rfl⟩ := own_shape h.row
    exact Or.inl ⟨rfl, p, c, rfl⟩
  · have hp : 0 < ws.length := List.length_pos_iff.2 h0
    obtain ⟨g, c, rfl, g1, g2, g3, g4, g5⟩ := ownsRow_at h.row hp
    refine Or.inr ⟨g, 0, c, by rw [List.length_map], fun i hi => ?_, g1, g2, Nat.le_refl _, fun e => h0 (List.map_eq_nil_iff.1 e), by rw [List.length_map]; exact g3, g4⟩
    have hi' : i < ws.length := by simpa using hi
    obtain ⟨⟨lo, hi2, hr⟩, _⟩ := h.each _ (List.getElem_mem hi')
    refine ⟨[ws[i].2], rfl, ⟨ws[i].2, lo, hi2, rfl, by rw [List.getElem_map]; exact hr.kept0 h.kept⟩, fun j u hj => ?_⟩
    have hj0 : j = 0 := by
      have := (List.getElem?_eq_some_iff.1 hj).1
      simpa using this
    subst hj0
    rw [Nat.zero_add, Nat.mul_one]
    refine g5 _ _ ?_
    have hu : u = ws[i].2 := by simpa using hj.symm
    rw [hu]
    simp [hi']
set_option maxRecDepth 100000 in
set_option maxHeartbeats 4000000 in
theorem joinsLaw (va : Value) (ll : List (List JRec)) (w : World) (h : TxsIn w va ll 0 w.heap.size) :
    Calls Try.prog 4 #[va] w fun e w' => e = .returned (.bool true) ∧ Below w.heap.size w w' := by
  have hlm := RowsOf.len h
  obtain ⟨p, c, rfl⟩ := RowsOf.shape h
  unfold maxLen at hlm
  have HLM := Lib.hid hlm
  have H := Lib.hid h
  have haw := fun W => jawake W
  have HAW := Lib.hid haw
  clear h hlm haw
  go_enter Try.func4, Try.ntmps4
  go_wp2_with fail
  go_loopw [3, 4, 5, 6, 7] (fun v3 v4 i v6 v7 wr => ∃ (k : Nat) (ws : List (List JRec × Value)), k ≤ ll.length ∧ k ≤ 8 ∧ ws.length ≤ k ∧ i = .int .i64 k ∧ v4 = .string (bs (joinL ws)) ∧ JoinSt w wr v3 ws) (fun _ _ i _ _ _ => ll.length - (intOf i).toNat)
  case atStart => exact ⟨0, [], by omega, by omega, Nat.le_refl _, rfl, rfl, World.ownsRow_nil _ _ _ _, fun x hx => (by cases hx), Kept.refl _ _⟩
  case round =>
    obtain ⟨k, ws, hk, hk8, hwk, rfl, rfl, hst⟩ := hrel
    have hlen := hst.len
    obtain ⟨p3, c3, rfl⟩ := own_shape hst.row
    by_cases hlt : k < ll.length ∧ k < 8
    · obtain ⟨hlt, h8⟩ := hlt
      obtain ⟨b, off, kv, lo1, hi1, rfl, q0, hrec, _, hbh, hhw⟩ := (H.out.kept0 hst.kept).at_ k hlt
      obtain ⟨b', off', kv', lo2, hi2, he2, q0', hrec0, _, hbh0, hhw0⟩ := H.out.at_ k hlt
      injection he2 with he2
      injection he2 with eb eo _
      subst eb eo
      have ekv : kv' = kv := by
        have hc := (hst.kept.cell (a := ⟨b, off + k, none⟩) (by show b < w.heap.size; omega) (by simp)).trans q0'
        rw [q0] at hc
        injection hc with hc
        exact hc.symm
      subst ekv
      have hsm := jsmall kv' ll[k] lo1 hi1 wr hrec
      have htx := fun hf : FewR ll[k] => jtx kv' ll[k] lo1 hi1 wr hrec (by have := hf.1; omega) (fun r hr => by have := (hf.2 r hr).1; omega)
      have hfits := hrec0.fits
      unfold SmallSays at hsm
      unfold TxSays at htx
      have HSM := Lib.hid hsm
      have HTX := Lib.hid htx
      have HREC0 := Lib.hid hrec0
      have HFITS := Lib.hid hfits
      have HST := Lib.hid hst
      have HLT : Hid (k < ll.length ∧ k < 8) := ⟨hlt, h8⟩
      have i1 : (k : Int) < ll.length := by omega
      have i2 : (k : Int) < 8 := by omega
      have i3 : (ll.length : Int) ≤ 9223372036854775807 := by have := HLM.out; omega
      obtain ⟨pk, ck, rfl⟩ := hrec.shape
      have HLEN := Lib.hid hlen
      clear hsm htx hrec hrec0 hfits hst q0' hlen
      generalize ll[k] = L at *
      clear hlt h8
      go_wp2_with fail
      refine HSM.out.mono ?_; rintro e w' ⟨rfl, hc⟩
      rcases hc with ⟨rfl, hfew⟩ | rfl
      · have htx2 := HTX.out hfew
        have HTX2 := Lib.hid htx2
        have HFEW := Lib.hid hfew
        clear HSM HTX htx2 hfew
        by_cases hcode : txCode L = 0
        · have hto : txOut L = txL L := by unfold txOut; rw [if_pos hcode]
          rw [hcode, hto] at HTX2
          obtain ⟨hl1, hmay⟩ := txCode_ok hcode
          have heach : (∃ lo hi, RecsIn w (.slice pk L.length ck) L lo hi) ∧ (∀ r ∈ L, mayR r = true ∧ r.fits) ∧ 1 ≤ L.length ∧ L.length ≤ 30 := ⟨⟨_, _, HREC0.out⟩, fun r hr => ⟨hmay r hr, HFITS.out r hr⟩, hl1, HFEW.out.1⟩
          have htl := txL_len heach.2.1 heach.2.2.2
          have y0 : (bs (joinL ws)).size ≤ 100000 := by rw [bs_size]; have := HLEN.out; omega
          have y1 : (bs (txL L)).size ≤ 6010 := by rw [bs_size]; exact htl
          have hstr : Hid (bs (joinL ws) ++ bs (txL L) = bs (joinL (ws ++ [(L, .slice pk L.length ck)]))) := by show _ = _; rw [bs_append, joinL_snoc]
          have yy : (bs (joinL ws) ++ bs (txL L)).size = (bs (joinL ws)).size + (bs (txL L)).size := ByteArray.size_append
          have HEACH := Lib.hid heach
          have HW := Lib.hid HST.out.row
          obtain ⟨i0, r0, r1, r2, r3⟩ := infoRecs
          have m3 : ws.length + 1 ≤ maxLen := by unfold maxLen; omega
          have m4 : (ws.length + 1) * 24 ≤ 140737488355328 := by omega
          have hsz : w.heap.size ≤ wr.heap.size := HST.out.kept.size
          have hbw : b < wr.heap.size := by omega
          clear hcode hto hl1 hmay heach htl
          generalize bs (txL L) = S1 at *
          generalize bs (joinL ws) = S0 at *
          go_wp2_with fail
          refine HTX2.out.mono ?_; rintro e w2 ⟨rfl, k2⟩
          have hr2 : w2.ownsRow w.heap.size 32 1 (.slice p3 ws.length c3) ws.length (ws.map (·.2)) := ownsRow_kept HW.out k2 (by simp)
          have q2 : w2.cell? ⟨b, off + k, none⟩ = some (.slice pk L.length ck) := (k2.cell (a := ⟨b, off + k, none⟩) hbw (by simp)).trans q0
          have HR2 := Lib.hid hr2
          have hk2 := HST.out.kept.trans k2
          have hsz2 : w.heap.size ≤ w2.heap.size := hk2.size
          clear hr2 k2 HTX2
          go_wp2_with (at_builtin; go_must (refine wpList_append_own_at _ rfl (.tmp 40) (.tmp 45) 23 rfl w.heap.size 32 i0 (.slice none 0 0) 1 24 Try.underlying23 r0 r1 r2 r3 rfl (by decide) _ _ _ rfl (World.ownsRow.alloc HR2.out _) ⟨w2.heap.size, 0, none⟩ 1 1 [.slice pk L.length ck] rfl rfl ?_ ?_ m3 m4 ?_ ?_))
          · exact World.news_of_block (heap_alloc_new w2 _)
          · intro u hu; simp at hu; subst hu; rfl
          · simp; omega
          intro v7 w7 o7 gr7 _ _
          have hra := World.ownsRow.alloc HR2.out (.cells #[.slice pk L.length ck] 32)
          have hk7 : Kept [] w w7 := (hk2.alloc _).grown gr7 (fun i hi => Or.inr (World.ownsRow.lt hra i hi).1)
          have hst7 : JoinSt w w7 v7 (ws ++ [(L, .slice pk L.length ck)]) := ⟨by rw [List.map_append, List.length_append, List.length_singleton]; exact o7, fun x hx => by
            rcases List.mem_append.1 hx with hx | hx
            · exact HST.out.each x hx
            · have hx : x = (L, .slice pk L.length ck) := by simpa using hx
              subst hx
              exact HEACH.out, hk7⟩
          have HST7 := Lib.hid hst7
          clear gr7 o7 hra hst7
          go_wp2_with fail
          go_roundw
          case rel => exact ⟨k + 1, _, HLT.out.1, HLT.out.2, by rw [List.length_append, List.length_singleton]; omega, by go_num, by rw [← hstr.out], HST7.out⟩
          case measure => (have hh := HLT.out; simp [intOf]; omega)
        · have hc1 : (txCode L == 0) = false := by simpa using hcode
          generalize txCode L = tc at *
          generalize bs (txOut L) = S1 at *
          clear hcode
          go_wp2_with fail
          refine HTX2.out.mono ?_; rintro e w2 ⟨rfl, k2⟩
          have hst2 : JoinSt w w2 (.slice p3 ws.length c3) ws := ⟨ownsRow_kept HST.out.row k2 (by simp), HST.out.each, HST.out.kept.trans k2⟩
          have HST2 := Lib.hid hst2
          clear hst2 k2
          go_wp2_with fail
          go_roundw
          case rel => exact ⟨k + 1, ws, HLT.out.1, HLT.out.2, by omega, by go_num, rfl, HST2.out⟩
          case measure => (have hh := HLT.out; simp [intOf]; omega)
      · clear HSM HTX
        go_wp2_with fail
        refine (HAW.out _).mono ?_; rintro e w4 ⟨rfl, k4⟩
        have kk := HST.out.kept.trans k4
        go_wp2_with fail
        go_ret
        exact ⟨rfl, kk.below⟩
    · have hro : readO (joinL ws) = some (ws.map (·.1)) := readO_lay _ (fun l hl => by
        obtain ⟨x, hx, rfl⟩ := List.mem_map.1 hl
        have := hst.each x hx
        exact ⟨this.2.1, this.2.2.1, by omega⟩)
      have hr := fun W => jread (joinL ws) W (by omega)
      unfold ReadSays at hr
      rw [hro] at hr
      have hfew := readO_few hro
      have HR := Lib.hid hr
      have HIN := Lib.hid hst.in_
      have HFEW := Lib.hid hfew
      have HK := Lib.hid hst.kept
      rcases (by omega : ll.length ≤ k ∨ (k < ll.length ∧ 8 ≤ k)) with hge | ⟨hge, h8⟩
      all_goals
        try have i1 : ¬ ((k : Int) < ll.length) := by omega
        try have i1 : (k : Int) < ll.length := by omega
        try have i2 : ¬ ((k : Int) < 8) := by omega
        clear hr hro hfew hst hlt hlen
        generalize ws.map (·.1) = WS at *
        generalize bs (joinL ws) = S0 at *
        go_wp2_with fail
        refine (HR.out _).mono ?_; rintro e w1 ⟨hc, k1⟩
        rcases hc with ⟨ls, v, hls, hrow, rfl⟩ | ⟨hno, _⟩
        · have hls : WS = ls := by injection hls
          subst hls
          have hall := jall _ _ WS _ _ _ _ w1 hrow.in_ (HIN.out.kept0 k1) HFEW.out
          obtain ⟨p2, c2, rfl⟩ := hrow.shape
          have HALL := Lib.hid hall
          clear hall HR hrow
          go_wp2_with fail
          refine HALL.out.mono ?_; rintro e w3 ⟨rfl, k3⟩
          go_wp2_with fail
          refine (HAW.out _).mono ?_; rintro e w4 ⟨rfl, k4⟩
          have kk := ((HK.out.trans k1).trans k3).trans k4
          go_wp2_with fail
          go_ret
          exact ⟨rfl, kk.below⟩
        · cases hno
end Go.Proofs.Ytegbekeopgponaa
