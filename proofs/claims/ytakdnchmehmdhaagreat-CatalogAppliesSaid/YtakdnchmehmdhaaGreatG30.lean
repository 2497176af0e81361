/- Layer 13 (journal): the records of a transaction's bytes, as the document reads them. -/
import Derived.Test.YtakdnchmehmdhaaGreatG28
import Derived.Test.YtakdnchmehmdhaaGreatG29
namespace Go.Proofs.YtakdnchmehmdhaaGreat
open Go.RowKit
set_option linter.unusedVariables false
set_option linter.unusedSimpArgs false

/-- the records so far: what is left may be read on, or a reading failed and there are none. -/
structure QrecsSt (w wr : World) (b : Nat) (s s1 : List UInt8) (j : Nat) (v6 : Value) (vs : List (JRec × Value)) (rest : List UInt8) (x : Int) : Prop where
  so : (x = 0 ∧ recsO j s1 = some (vs.map (·.1), rest)) ∨ (x ≠ 0 ∧ bodyO s = none)
  rd : RrAt wr b rest x
  row : wr.ownsRow w.heap.size 55 5 v6 j (reccells vs)
  each : ∀ y ∈ vs, RunsNew w wr y.2 y.1.runs ∧ y.1.fits
  len : vs.length = j
  kept : Kept [] w wr
  hb : b = w.heap.size
section
variable {w wr w3 w5 : World} {b : Nat} {s s1 : List UInt8} {j : Nat} {v6 v' kv : Value} {vs : List (JRec × Value)} {rest rest' : List UInt8} {x x' : Int} {r : JRec} {o1 : Obj}
theorem QrecsSt.new (h : QrecsSt w wr b s s1 j v6 vs rest x) : RecsNew w wr v6 (vs.map (·.1)) :=
  ⟨vs, rfl, by rw [List.length_map, h.len]; exact h.row, h.each⟩
theorem QrecsSt.row3 (h : QrecsSt w wr b s s1 j v6 vs rest x) {S : List Nat} (kk : Kept S wr w3) (hS : ∀ y ∈ S, y = b) : w3.ownsRow w.heap.size 55 5 v6 j (reccells vs) :=
  ownsRow_keptT h.row kk (fun y hy _ cs hc => by
    obtain ⟨cs', o⟩ := h.rd.reader
    rw [hS y hy] at hc
    exact absurd (own_ty o hc) (by decide))
theorem QrecsSt.kept3 (h : QrecsSt w wr b s s1 j v6 vs rest x) {S : List Nat} (kk : Kept S wr w3) (hS : ∀ y ∈ S, y = b) : Kept [] w w3 :=
  h.kept.call kk (fun y hy => Or.inr (by have := hS y hy; have := h.hb; omega))
/-- behind the next record. -/
theorem QrecsSt.next (h : QrecsSt w wr b s s1 j v6 vs rest x) (ho : (x' = 0 ∧ recsO (j + 1) s1 = some (vs.map (·.1) ++ [r], rest')) ∨ (x' ≠ 0 ∧ bodyO s = none))
    {S : List Nat} (kk : Kept S wr w3) (hS : ∀ y ∈ S, y = b) (hR : RrAt w3 b rest' x') (hr : RunsNew wr w3 kv r.runs) (hf : r.fits)
    (hg : (w3.alloc o1).grownBy w5 v6.ownBlock) (hn : w5.ownsRow w.heap.size 55 5 v' (j + 1) (reccells vs ++ [Value.int .i64 r.kind, Value.int .u32 r.id, Value.string (bs r.name), Value.int .i64 r.size, kv])) :
    QrecsSt w w5 b s s1 (j + 1) v' (vs ++ [(r, kv)]) rest' x' := by
  have hrow3 := h.row3 kk hS
  have hk3 := h.kept3 kk hS
  have hsz := h.kept.size
  have heach3 : ∀ y ∈ vs, RunsNew w w3 y.2 y.1.runs ∧ y.1.fits := fun y hy => ⟨(h.each y hy).1.keptT kk (fun z hz => by
    obtain ⟨cs', o⟩ := h.rd.reader
    rw [hS z hz]
    exact Or.inr ⟨_, _, o, by decide⟩), (h.each y hy).2⟩
  have hra := World.ownsRow.alloc hrow3 o1
  have hk : ∀ (u : Value) (rs : List (Int × Int)), RunsNew w w3 u rs → RunsNew w w5 u rs := fun u rs hu => by
    have hu' : RunsNew w (w3.alloc o1) u rs := World.ownsRow.alloc hu o1
    exact hu'.grown hra hg (by decide)
  refine ⟨?_, (hR.kept ((Kept.refl [] w3).alloc o1) (by simp)).grown hra hg (by decide), by rw [reccells_snoc]; exact hn, fun y hy => ?_, by rw [List.length_append, h.len]; rfl, (hk3.alloc o1).grown hg (fun i hi => Or.inr (World.ownsRow.lt hra i hi).1), h.hb⟩
  · simpa using ho
  · rcases List.mem_append.1 hy with hy | hy
    · exact ⟨hk _ _ (heach3 y hy).1, (heach3 y hy).2⟩
    · have hy : y = (r, kv) := by simpa using hy
      subst hy
      exact ⟨hk _ _ (hr.base hsz), hf⟩
end
set_option maxRecDepth 100000 in
set_option maxHeartbeats 4000000 in
theorem qrecords (s : List UInt8) (w : World) (hs : s.length ≤ 1000000) :
    Calls Tryz.prog 97 #[.string (bs s)] w (RecordsSays s w) := by
  have hR0 : RrAt (w.alloc (.cells #[.string (bs s), .int .i64 0, .int .i64 0] 93)) w.heap.size s 0 := ⟨s, 0, Own.new _ _ _, by omega, hs, by simp, fun h => absurd rfl h⟩
  have hu := qnum2 w.heap.size s 0 _ hR0
  have hx0 := fun h => numR_pos (k := 2) (l := s) (x := 0) h
  have hxn := fun h => numR_no (k := 2) (l := s) (x := 0) h
  have hno := fun h => bodyO_n (s := s) h
  have hnone := fun h => bodyO_none (s := s) h
  have hleft := fun r o h => bodyO_left (s := s) (r := r) (o := o) h
  have hyes := fun o h1 h2 => bodyO_yes (s := s) (o := o) h1 h2
  have bn := numR_lt 2 s 0
  have BN := Lib.hid bn
  have HU := Lib.hid hu
  have HX0 := Lib.hid hx0
  have HXN := Lib.hid hxn
  have HNO := Lib.hid hno
  have HNONE := Lib.hid hnone
  have HLEFT := Lib.hid hleft
  have HYES := Lib.hid hyes
  clear hu hx0 hxn hno hnone hleft hyes hR0 bn
  generalize numR 2 s 0 = N at *
  obtain ⟨n, s1, x1⟩ := N
  simp only at *
  go_enter Tryz.func97, Tryz.ntmps97
  go_wp2_with fail
  refine HU.out.mono ?_; rintro e w2 ⟨rfl, hR2, hk2⟩
  have hK : Kept [] w w2 := ((Kept.refl [] w).alloc _).call hk2 (fun y hy => Or.inr (Nat.le_of_eq (List.mem_singleton.1 hy).symm))
  have hst : QrecsSt w w2 w.heap.size s s1 0 (.slice none 0 0) [] s1 x1 := ⟨by
    by_cases hx : x1 = 0
    · exact Or.inl ⟨hx, rfl⟩
    · exact Or.inr ⟨hx, HNO.out (by have := HXN.out hx; omega)⟩, hR2, World.ownsRow_nil _ _ _ _, fun x hx => (by cases hx), rfl, hK, rfl⟩
  have HST := Lib.hid hst
  clear hst hR2 hk2 hK HU
  generalize hbb : w.heap.size = b at *
  have HBB := Lib.hid hbb
  clear hbb
  generalize hnn : (n : Int) = nn at *
  have HNN := Lib.hid hnn
  clear hnn
  go_wp2_with fail
  go_loopw [6, 7, 8] (fun v6 i v8 wr => ∃ (j : Nat) (vs : List (JRec × Value)) (rest : List UInt8) (x : Int), j ≤ n ∧ i = .int .u64 j ∧ QrecsSt w wr b s s1 j v6 vs rest x) (fun _ i _ _ => n - (intOf i).toNat)
  case atStart => exact ⟨0, [], s1, x1, by omega, rfl, HST.out⟩
  case round =>
    obtain ⟨j, vs, rest, x, hj, rfl, hst⟩ := hrel
    obtain ⟨p6, c6, rfl⟩ := own_shape hst.row
    have hce := hst.rd.err
    have HSR := Lib.hid hst
    by_cases hlt : j < n
    · have i1 : (j : Int) < nn := by have := HNN.out; omega
      by_cases hx : x = 0
      · subst hx
        have hso : recsO j s1 = some (vs.map (·.1), rest) := by
          rcases hst.so with h | h
          · exact h.2
          · exact absurd rfl h.1
        have hone := qone b rest wr hst.rd
        have HONE := Lib.hid hone
        have HSO := Lib.hid hso
        have HLT := Lib.hid hlt
        clear hone hst HST hso hlt hj
        go_wp2_with fail
        refine HONE.out.mono ?_; rintro e w3 ⟨m, kv, rfl, hm, hrow, hR3, hm2, hk3⟩
        clear HONE
        have hfit := oneR_fits m rest
        obtain ⟨pk, ck, rfl⟩ := own_shape hrow
        have hnext : ((oneR m rest).2.2 = 0 ∧ recsO (j + 1) s1 = some (vs.map (·.1) ++ [(oneR m rest).1], (oneR m rest).2.1)) ∨ ((oneR m rest).2.2 ≠ 0 ∧ bodyO s = none) ∨ (mayR (oneR m rest).1 = false ∧ bodyO s = none) := by
          by_cases hx : (oneR m rest).2.2 = 0
          · have hmm := hm2 hx
            subst hmm
            cases hM : mayR (oneR (nR rest).1 rest).1
            · exact Or.inr (Or.inr ⟨rfl, HNONE.out (by rw [recsO_stop HSO.out (recO_may hM) HLT.out])⟩)
            · exact Or.inl ⟨hx, recsO_step HSO.out (recO_yes hx hM)⟩
          · exact Or.inr (Or.inl ⟨hx, HNONE.out (by rw [recsO_stop HSO.out (recO_err hx hm) HLT.out])⟩)
        have hnot : mayR (oneR m rest).1 = false → bodyO s = none := fun hM => by
          rcases hnext with ⟨hx, h⟩ | ⟨_, h⟩ | ⟨_, h⟩
          · have hmm := hm2 hx
            subst hmm
            exact HNONE.out (by rw [recsO_stop HSO.out (recO_may hM) HLT.out])
          · exact h
          · exact h
        have hlenr : (oneR m rest).1.runs.length ≤ 1000000 := by
          have : (oneR m rest).1.runs.length = m := runsR_len _ _ _
          have := ctR_lt ((kdR rest).1 : Int) (zR rest).2.1 (zR rest).2.2
          have e : nR rest = ctR ((kdR rest).1 : Int) (zR rest).2.1 (zR rest).2.2 := rfl
          rw [e] at hm
          omega
        clear hm hm2
        generalize oneR m rest = O at *
        obtain ⟨r, rest', x'⟩ := O
        simp only at *
        have hmay := fun W (kk : Kept [] w3 W) => qmay r (.slice pk r.runs.length ck) wr.heap.size W.heap.size W (RunsNew.kept0 hrow kk).in_ hlenr hfit
        unfold JMay at hmay
        have hr3 := HSR.out.row3 hk3 (by simp)
        have HR3' := Lib.hid hr3
        have HROW := Lib.hid hrow
        have HR3 := Lib.hid hR3
        have HFIT := Lib.hid hfit
        have HNEXT := Lib.hid hnext
        have HNOT := Lib.hid hnot
        have o3 := Own.new w3 #[.int .i64 r.kind, .int .u32 r.id, .string (bs r.name), .int .i64 r.size, .slice pk r.runs.length ck] 55
        have ka : Kept [] w3 (w3.alloc (.cells #[.int .i64 r.kind, .int .u32 r.id, .string (bs r.name), .int .i64 r.size, .slice pk r.runs.length ck] 55)) := (Kept.refl _ _).alloc _
        have hm1 := hmay _ ka
        unfold JRec.cells at hm1
        unfold JRec.cells
        have HM1 := Lib.hid hm1
        have O3 := Lib.hid o3
        have KA := Lib.hid ka
        clear hmay hr3 hrow hR3 hfit hnext hnot o3 ka hm1 hlenr
        generalize hMM : mayR r = M at *
        have HMM := Lib.hid hMM
        clear hMM
        cases M
        · have hno := HNOT.out rfl
          have HN2 := Lib.hid hno
          have hkk := (HSR.out.kept3 hk3 (by simp)).trans KA.out
          clear hno
          go_wp2_with fail
          refine HM1.out.mono ?_; rintro e w4 ⟨rfl, k4⟩
          go_wp2_with fail
          go_ret2
          exact ⟨Or.inr ⟨HN2.out, _, rfl⟩, hkk.trans k4⟩
        · have hnx := HNEXT.out
          have hso2 : (x' = 0 ∧ recsO (j + 1) s1 = some (vs.map (·.1) ++ [r], rest')) ∨ (x' ≠ 0 ∧ bodyO s = none) := by
            rcases hnx with h | h | h
            · exact Or.inl h
            · exact Or.inr h
            · exact absurd h.1 (by simp)
          have HSO2 := Lib.hid hso2
          obtain ⟨i0, q0, q1, q2, q3⟩ := infoRec
          have r3 : j + 1 ≤ maxLen := by have := HLT.out; have := BN.out; unfold maxLen; omega
          have r4 : (j + 1) * 64 ≤ 140737488355328 := by have := HLT.out; have := BN.out; omega
          clear hso2 hnx HNEXT HNOT
          go_wp2_with fail
          refine HM1.out.mono ?_; rintro e w4 ⟨rfl, k4⟩
          have o4 := k4.own O3.out (by simp)
          obtain ⟨d0, d1, d2, d3, d4⟩ := o4.c5
          have k34 := KA.out.trans k4
          have hr4 : w4.ownsRow w.heap.size 55 5 (.slice p6 j c6) j (reccells vs) := ownsRow_kept HR3'.out k34 (by simp)
          have HR4' := Lib.hid hr4
          have hsz4 : w.heap.size ≤ w4.heap.size := Nat.le_trans (HSR.out.kept3 hk3 (by simp)).size k34.size
          have hk4 : Kept [b] wr w4 := hk3.trans (k34.mono (by simp))
          have hR4 : RrAt w4 b rest' x' := HR3.out.kept k34 (by simp)
          have hrow4 : RunsNew wr w4 (.slice pk r.runs.length ck) r.runs := RunsNew.kept0 HROW.out k34
          have HK4 := Lib.hid hk4
          have HR4 := Lib.hid hR4
          have HROW4 := Lib.hid hrow4
          have hjs : IntKind.u64.wrap ((j : Int) + 1) = ((j + 1 : Nat) : Int) := by have := ju64_nat (j + 1) (by have := HLT.out; have := BN.out; omega); simpa using this
          clear hr4 o4 hk4 hR4 hrow4 k34 k4 hk3
          go_wp2_with (at_builtin; go_must (refine wpList_append_own_at _ rfl (.tmp 31) (.tmp 33) 40 rfl w.heap.size 55 i0 (.agg #[.int .i64 0, .int .u32 0, .string { data := #[] }, .int .i64 0, .slice none 0 0]) 5 64 Tryz.underlying40 q0 q1 q2 q3 rfl (by decide) _ _ _ rfl (World.ownsRow.alloc HR4'.out _) ⟨w4.heap.size, 0, none⟩ 1 1 [.int .i64 r.kind, .int .u32 r.id, .string (bs r.name), .int .i64 r.size, .slice pk r.runs.length ck] rfl rfl ?_ ?_ r3 r4 ?_ ?_))
          · exact World.news_of_block (heap_alloc_new w4 _)
          · intro u hu; simp at hu; rcases hu with rfl | rfl | rfl | rfl | rfl <;> rfl
          · simp; omega
          intro v6 w6 o6 gr6 _ _
          have hnx := HSR.out.next HSO2.out HK4.out (by simp) HR4.out HROW4.out HFIT.out gr6 o6
          have HNX := Lib.hid hnx
          clear hnx o6 gr6
          go_wp2_with fail
          go_roundw
          case rel => exact ⟨j + 1, _, _, _, HLT.out, by first | rfl | go_num, HNX.out⟩
          case measure => (have hh := HLT.out; simp [intOf]; omega)
      · have hx1 : (x == 0) = false := by simpa using hx
        have hx2 : (x != 0) = true := by simpa using hx
        have hno : bodyO s = none := by
          rcases hst.so with h | h
          · exact absurd h.1 hx
          · exact h.2
        have hend := rrEnd b rest x wr hst.rd
        have ee : endR rest x = x := by unfold endR; rw [if_neg (fun h => hx h.1)]
        rw [ee] at hend
        have HE := Lib.hid hend
        have HN2 := Lib.hid hno
        have hkk := hst.kept
        clear hst HST hend ee hno hlt
        go_wp2_with fail
        refine HE.out.mono ?_; rintro e w4 ⟨rfl, nd, rfl⟩
        go_wp2_with fail
        go_ret2
        exact ⟨Or.inr ⟨HN2.out, _, rfl⟩, hkk.drewN _⟩
    · obtain rfl : j = n := by omega
      have i1 : ¬ ((j : Int) < nn) := by have := HNN.out; omega
      have hend := rrEnd b rest x wr hst.rd
      have hkk := hst.kept
      have HNEW := Lib.hid hst.new
      rcases hst.so with ⟨rfl, hso⟩ | ⟨hx, hno⟩
      · by_cases hr : rest = []
        · subst hr
          rw [endR_ok] at hend
          have HE := Lib.hid hend
          rcases (by have := HNN.out; omega : nn < 1 ∨ (1 ≤ nn ∧ 8192 < nn) ∨ (1 ≤ nn ∧ nn ≤ 8192)) with h1 | ⟨h1, h2⟩ | ⟨h1, h2⟩
          · have hno := HNO.out (by have := HNN.out; omega)
            have HN2 := Lib.hid hno
            clear hst HST hend hno hlt hso
            go_wp2_with fail
            refine HE.out.mono ?_; rintro e w4 ⟨rfl, nd, rfl⟩
            go_wp2_with fail
            go_ret2
            exact ⟨Or.inr ⟨HN2.out, _, rfl⟩, hkk.drewN _⟩
          · have hno := HNO.out (by have := HNN.out; omega)
            have HN2 := Lib.hid hno
            clear hst HST hend hno hlt hso
            go_wp2_with fail
            refine HE.out.mono ?_; rintro e w4 ⟨rfl, nd, rfl⟩
            go_wp2_with fail
            go_ret2
            exact ⟨Or.inr ⟨HN2.out, _, rfl⟩, hkk.drewN _⟩
          · have hyes := HYES.out _ (by have := HNN.out; omega) (by have := HNN.out; omega) hso
            have HY := Lib.hid hyes
            clear hst HST hend hlt hso hyes
            go_wp2_with fail
            refine HE.out.mono ?_; rintro e w4 ⟨rfl, nd, rfl⟩
            go_wp2_with fail
            go_ret2
            exact ⟨Or.inl ⟨_, _, HY.out, HNEW.out.kept0 ((Kept.refl _ _).drewN _), rfl⟩, hkk.drewN _⟩
        · rw [endR_left hr] at hend
          have hno := HLEFT.out _ _ hso hr
          have HE := Lib.hid hend
          have HN2 := Lib.hid hno
          clear hst HST hend hno hlt hso hr
          go_wp2_with fail
          refine HE.out.mono ?_; rintro e w4 ⟨rfl, nd, rfl⟩
          go_wp2_with fail
          go_ret2
          exact ⟨Or.inr ⟨HN2.out, _, rfl⟩, hkk.drewN _⟩
      · have hx1 : (x == 0) = false := by simpa using hx
        have hx2 : (x != 0) = true := by simpa using hx
        have ee : endR rest x = x := by unfold endR; rw [if_neg (fun h => hx h.1)]
        rw [ee] at hend
        have HE := Lib.hid hend
        have HN2 := Lib.hid hno
        clear hst HST hend ee hno hlt
        go_wp2_with fail
        refine HE.out.mono ?_; rintro e w4 ⟨rfl, nd, rfl⟩
        go_wp2_with fail
        go_ret2
        exact ⟨Or.inr ⟨HN2.out, _, rfl⟩, hkk.drewN _⟩
end Go.Proofs.YtakdnchmehmdhaaGreat
