/- Layer 13 (journal): all transactions of bytes, as the document reads them. -/
import Derived.Test.YtegbekeopgponaaG27
import Derived.Test.YtegbekeopgponaaG28
import Derived.Deep.QuietTactic
import Derived.BigQuiet
namespace Go.Proofs.Ytegbekeopgponaa
open Go.RowKit
set_option linter.unusedVariables false
set_option linter.unusedSimpArgs false

theorem RrAt.offT {w0 w : World} {b : Nat} {l : List UInt8} {x : Int} (h : RrAt w b l x) : OffTxs w0 w [b] := by
  obtain ⟨cs, o⟩ := h.reader
  exact OffTxs.one o (by decide) (by decide) (by decide)
structure QreadSt (w w' : World) (b : Nat) (s0 : List UInt8) (v4 : Value) (out : List (List JRec)) (s : List UInt8) : Prop where
  at_ : ReadAt s0 out s
  rd : RrAt w' b s 0
  row : TxsNew w w' v4 out
  kept : Kept [] w w'
  hb : b = w.heap.size
  few : out.length * 8 + s.length ≤ s0.length
theorem QreadSt.new_kept {w wr wx : World} {b : Nat} {s0 : List UInt8} {v4 : Value} {out : List (List JRec)} {s : List UInt8} (h : QreadSt w wr b s0 v4 out s) {S : List Nat} (kk : Kept S wr wx) (hS : ∀ y ∈ S, y = b) : TxsNew w wx v4 out ∧ Kept [] w wx := by
  obtain ⟨cs, o⟩ := h.rd.reader
  exact ⟨h.row.kept kk (fun y hy => by rw [hS y hy]; exact Or.inr ⟨_, _, o, by decide, by decide, by decide⟩), h.kept.call kk (fun y hy => Or.inr (by have := hS y hy; have := h.hb; omega))⟩
def QreadM (b : Nat) (w' : World) : Nat := match w'.cell? ⟨b, 0, none⟩, w'.cell? ⟨b, 1, none⟩ with | some (.string s), some (.int _ a) => s.size - a.toNat | _, _ => 0
theorem qreadM_at {w' : World} {b : Nat} {s : List UInt8} {x : Int} (h : RrAt w' b s x) : QreadM b w' = s.length := by
  obtain ⟨S, a, o, h1, h2, rfl, _⟩ := h
  unfold QreadM
  rw [show w'.cell? ⟨b, 0, none⟩ = some (.string (bs S)) from Own.cell o 0 (by simp), show w'.cell? ⟨b, 1, none⟩ = some (.int .i64 a) from Own.cell o 1 (by simp)]
  simp only [bs_size, List.length_drop, Int.toNat_natCast]
/-- what a call of the document's Read tells. -/
def QReadSays (s : List UInt8) (w : World) (e : Ending) (w' : World) : Prop :=
  ((∃ ls v, readO s = some ls ∧ TxsNew w w' v ls ∧ e = .returned (.tuple #[v, .bool true])) ∨ (readO s = none ∧ e = .returned (.tuple #[.slice none 0 0, .bool false]))) ∧ Kept [] w w'
set_option maxRecDepth 100000 in
set_option maxHeartbeats 4000000 in
theorem qread (s0 : List UInt8) (w : World) (hs : s0.length ≤ 1000000) :
    Calls Try.prog 11 #[.string (bs s0)] w (QReadSays s0 w) := by
  have hR0 : RrAt (w.alloc (.cells #[.string (bs s0), .int .i64 0, .int .i64 0] 83)) w.heap.size s0 0 := ⟨s0, 0, Own.new _ _ _, by omega, hs, by simp, fun h => absurd rfl h⟩
  have hst : QreadSt w (w.alloc (.cells #[.string (bs s0), .int .i64 0, .int .i64 0] 83)) w.heap.size s0 (.slice none 0 0) [] s0 := ⟨ReadAt.start _, hR0, TxsNew.nil _ _, (Kept.refl _ _).alloc _, rfl, by simp⟩
  have hz : ((bs s0).size : Int) = s0.length := by rw [bs_size]
  have hz2 : (bs s0).size ≤ 1000000 := by rw [bs_size]; exact hs
  have hz3 : IntKind.u64.wrap ((bs s0).size : Int) = ((bs s0).size : Int) := ju64_nat _ (by omega)
  have HST := Lib.hid hst
  have HS := Lib.hid hs
  obtain ⟨sz, hsz0⟩ : ∃ sz : Int, ((bs s0).size : Int) = sz := ⟨_, rfl⟩
  rw [hsz0] at hz hz3
  have hz4 : 0 ≤ sz ∧ sz ≤ 1000000 := by omega
  have HZ := Lib.hid hz
  clear hst hR0 hs hz hz2
  go_enter Try.func11, Try.ntmps11
  go_wp2_with fail
  generalize hbb : w.heap.size = b at *
  have HBB := Lib.hid hbb
  clear hbb
  go_loopw [4, 6, 7, 8, 9, 10] (fun v4 v6 v7 v8 v9 v10 wr => ∃ (out : List (List JRec)) (s : List UInt8), QreadSt w wr b s0 v4 out s) (fun _ _ _ _ _ _ wr => QreadM b wr)
  case atStart => exact ⟨[], s0, HST.out⟩
  case round =>
    obtain ⟨out, s, hst⟩ := hrel
    obtain ⟨p4, c4, rfl⟩ := hst.row.shape
    have hl := rrLeft b s 0 wr hst.rd
    have hce := hst.rd.err
    by_cases hnil : s = []
    · have hro := hst.at_.end_ hnil
      subst hnil
      have HRO := Lib.hid hro
      have HL := Lib.hid hl
      have HROW := Lib.hid hst.row
      have hkk := hst.kept
      clear hro hl hst HST
      go_wp2_with fail
      refine HL.out.mono ?_; rintro e w1 ⟨rfl, nd, rfl⟩
      go_wp2_with fail
      go_quiet (fail)
      go_wp2_with fail
      go_ret2
      exact ⟨Or.inl ⟨_, _, HRO.out, HROW.out.kept0 (((Kept.refl _ _).drewN _).drewN _), rfl⟩, (hkk.drewN _).drewN _⟩
    · have hpos : 0 < s.length := List.length_pos_iff.2 hnil
      have hpos' : (0 : Int) < (s.length : Int) := by omega
      have hu1 := fun W (hr : RrAt W b s 0) => (show Calls Try.prog 46 #[.pointer (some ⟨b, 0, none⟩), .int .i64 4] W fun r w' => r = .returned (.int .u64 (aR s).1) ∧ RrAt w' b (aR s).2.1 (aR s).2.2 ∧ Kept [b] W w' from qnum4 b s 0 W hr)
      have hu2 := fun W (hr : RrAt W b (aR s).2.1 (aR s).2.2) => (show Calls Try.prog 46 #[.pointer (some ⟨b, 0, none⟩), .int .i64 4] W fun r w' => r = .returned (.int .u64 (cR s).1) ∧ RrAt w' b (cR s).2.1 (cR s).2.2 ∧ Kept [b] W w' from qnum4 b _ _ W hr)
      have htk := fun W (hr : RrAt W b (cR s).2.1 (cR s).2.2) => (show Calls Try.prog 47 #[.pointer (some ⟨b, 0, none⟩), .int .i64 (aR s).1] W fun r w' => r = .returned (.string (bs (bR s).1)) ∧ RrAt w' b (bR s).2.1 (bR s).2.2 ∧ Kept [b] W w' from rrTake b _ _ (aR s).1 W hr)
      have ba : ((aR s).1 : Int) < 4294967296 := by have : (aR s).1 < 4294967296 := numR_lt 4 s 0; omega
      have ewa : IntKind.i64.wrap ((aR s).1 : Int) = ((aR s).1 : Int) := IntWalk.i64_in _ (by omega)
      have hbl : (bR s).1.length ≤ 1000000 := by
        by_cases hx : (bR s).2.2 = 0
        · have := (bR_less hx).2; have := hst.rd.small; omega
        · rw [show (bR s).1 = [] from takeR_no hx]; simp
      have hbig : s0.length < (aR s).1 → txO s = none := fun hh => by
        by_cases hx : (bR s).2.2 = 0
        · have h1 := bR_less hx; have := hst.few; omega
        · exact txO_err hx
      have hrecs := fun W => qrecords (bR s).1 W hbl
      have hcrc := fun W => rsum (bs (bR s).1) W (by rw [bs_size]; exact hbl)
      rw [bs_data] at hcrc
      have hcl := crc_lt (bR s).1
      have ewc : IntKind.u64.wrap ((crc (bR s).1 : Nat) : Int) = ((crc (bR s).1 : Nat) : Int) := ju64_nat _ (by omega)
      have hty := fun o => txO_yes (s := s) (o := o)
      have htb := fun h => txO_body (s := s) h
      have hte := fun h => txO_err (s := s) h
      have hts := fun h => txO_sum (s := s) h
      have hlt := fun h => (bR_less (s := s) h).2
      have HU1 := Lib.hid (hu1 _ (hst.rd))
      have HU2 := Lib.hid hu2
      have HTK := Lib.hid htk
      have HRECS := Lib.hid hrecs
      have HCRC := Lib.hid hcrc
      have HTY := Lib.hid hty
      have HTB := Lib.hid htb
      have HTE := Lib.hid hte
      have HTS := Lib.hid hts
      have HLT := Lib.hid hlt
      have HL := Lib.hid hl
      have HSR := Lib.hid hst
      have HNIL := Lib.hid hnil
      have HBIG := Lib.hid hbig
      clear ba
      clear hu2 htk hrecs hcrc hty htb hte hts hlt hl hbl hnil HST hbig hpos hcl
      generalize aR s = A at *
      generalize cR s = C at *
      generalize bR s = B at *
      generalize crc B.1 = cb at *
      obtain ⟨na, hna⟩ : ∃ na : Int, (A.1 : Int) = na := ⟨_, rfl⟩
      rw [hna] at ewa HTK HU1
      simp only [hna] at hu1
      have HNA := Lib.hid hna
      clear hna
      go_wp2_with fail
      refine HL.out.mono ?_; rintro e w1 ⟨rfl, nd, rfl⟩
      have hn1 := hu1 _ (hst.rd.kept ((Kept.refl [] wr).drewN nd) (by simp))
      have HN1 := Lib.hid hn1
      clear HL hu1 hst hn1
      have hpos2 := hpos'
      clear hpos'
      go_wp2_with fail
      refine HN1.out.mono ?_; rintro e w2 ⟨rfl, hR2, kk2⟩
      have kkA : Kept [b] wr w2 := ((Kept.refl [b] wr).drewN nd).trans kk2
      have hn2 := HU2.out _ hR2
      have HN2 := Lib.hid hn2
      clear HU2 hn2 hR2 HN1 kk2
      go_wp2_with fail
      refine HN2.out.mono ?_; rintro e w3 ⟨rfl, hR3, kk3⟩
      have kkB : Kept [b] wr w3 := kkA.trans kk3
      clear HN2 kk3 kkA
      by_cases hlen : s0.length < A.1
      · have hno := HSR.out.at_.no HNIL.out (HBIG.out hlen)
        have HNO := Lib.hid hno
        have hlen' : sz < na := by have := HZ.out; have := HNA.out; omega
        have hkk := (HSR.out.new_kept kkB (by simp)).2
        clear hno HTK HRECS HCRC HTY HTB HTE HTS HLT hlen
        go_wp2_with fail
        go_ret2
        exact ⟨Or.inr ⟨HNO.out, rfl⟩, hkk⟩
      · have hlen' : na ≤ sz := by have := HZ.out; have := HNA.out; omega
        have hn3 := HTK.out _ hR3
        have HN3 := Lib.hid hn3
        clear hn3 HTK hR3 hlen
        go_wp2_with fail
        refine HN3.out.mono ?_; rintro e w4 ⟨rfl, hR4, kk4⟩
        have kkC : Kept [b] wr w4 := kkB.trans kk4
        clear HN3 kk4 kkB
        go_wp2_with fail
        refine (HRECS.out _).mono ?_; rintro e w5 ⟨hc, kk5⟩
        have kkD : Kept [b] wr w5 := kkC.trans (kk5.mono (by simp))
        obtain ⟨row5, kept5⟩ := HSR.out.new_kept kkD (by simp)
        have hR5 := hR4.kept kk5 (by simp)
        have hce5 := hR5.err
        clear HRECS hR4 hce
        by_cases hx : B.2.2 = 0
        · have hlt := HLT.out hx
          rw [hx] at hce5
          rcases hc with ⟨o, v, ho, hrow, rfl⟩ | ⟨ho, v, rfl⟩
          · by_cases hsum : cb = C.1
            · have hstep := HSR.out.at_.step HNIL.out (HTY.out o ho hx hsum)
              have hR6 : RrAt w5 b B.2.1 0 := by have := hR5; rw [hx] at this; exact this
              subst hsum
              obtain ⟨pv, cv, rfl⟩ := hrow.shape
              obtain ⟨i0, q0, q1, q2, q3⟩ := infoRecs
              have hfew := HSR.out.few
              have hs0 := HS.out
              have r3 : out.length + 1 ≤ maxLen := by unfold maxLen; omega
              have r4 : (out.length + 1) * 24 ≤ 140737488355328 := by omega
              have hsz5 : w.heap.size ≤ w5.heap.size := kept5.size
              have hrn : RecsNew w w5 (.slice pv o.length cv) o := hrow.base (by have := HSR.out.kept.size; have := kkC.size; omega)
              have HRN := Lib.hid hrn
              have HSTEP := Lib.hid hstep
              have HR6 := Lib.hid hR6
              have HROW5 := Lib.hid row5
              have HLEN := Lib.hid hlt
              have HFEW := Lib.hid hfew
              have HCR := Lib.hid (HCRC.out w5)
              clear HTY HTB HTE HTS HLT hR5 hR6 hrow hrn hstep row5 hlt HCRC hfew ho hx
              go_wp2_with fail
              refine HCR.out.mono ?_; rintro e w6 ⟨rfl, kk6⟩
              have row6 := HROW5.out.kept0 kk6
              obtain ⟨vs, e1, e2, e3⟩ := row6
              have HRN6 := Lib.hid (HRN.out.kept0 kk6)
              have HR7 := Lib.hid (HR6.out.kept kk6 (by simp))
              have kept6 := kept5.trans kk6
              have hsz6 : w.heap.size ≤ w6.heap.size := kept6.size
              have HE1 := Lib.hid e1
              have HE2 := Lib.hid e2
              have HE3 := Lib.hid e3
              clear e1 e2 e3 kk6 HCR HROW5 HRN HR6
              go_wp2_with (at_builtin; go_must (refine wpList_append_own_at _ rfl (.tmp 51) (.tmp 53) 23 rfl w.heap.size 32 i0 (.slice none 0 0) 1 24 Try.underlying23 q0 q1 q2 q3 rfl (by decide) _ _ _ rfl (World.ownsRow.alloc HE2.out _) ⟨w6.heap.size, 0, none⟩ 1 1 [.slice pv o.length cv] rfl rfl ?_ ?_ r3 r4 ?_ ?_))
              · exact World.news_of_block (heap_alloc_new w6 _)
              · intro u hu; simp at hu; subst hu; rfl
              · simp; omega
              intro v7 w7 o7 gr7 _ _
              have hrow7 := TxsNew.more HE1.out HE3.out HE2.out HRN6.out gr7 o7
              have hra := World.ownsRow.alloc HE2.out (.cells #[.slice pv o.length cv] 32)
              have hrd7 : RrAt w7 b B.2.1 0 := (HR7.out.kept ((Kept.refl [] w6).alloc _) (by simp)).grown hra gr7 (by decide)
              have hk7 : Kept [] w w7 := (kept6.alloc _).grown gr7 (fun i hi => Or.inr (World.ownsRow.lt hra i hi).1)
              have hst7 : QreadSt w w7 b s0 v7 (out ++ [o]) B.2.1 := ⟨HSTEP.out, hrd7, hrow7, hk7, HSR.out.hb, by have := HFEW.out; have := HLEN.out; rw [List.length_append, List.length_singleton]; omega⟩
              have HST7 := Lib.hid hst7
              have HRD7 := Lib.hid hrd7
              obtain ⟨p7, c7, rfl⟩ := hrow7.shape
              clear gr7 o7 hra hrd7 hk7 hst7 hrow7
              go_wp2_with fail
              go_roundw
              case rel => exact ⟨_, _, HST7.out⟩
              case measure =>
                rw [qreadM_at HRD7.out, qreadM_at HSR.out.rd]
                have := HLEN.out
                omega
            · have hno := HSR.out.at_.no HNIL.out (HTS.out hsum)
              have hsum0 : ¬ ((C.1 : Int) = (cb : Int)) := by omega
              have hsum1 : ((C.1 : Int) != (cb : Int)) = true := by simpa using hsum0
              have hsum2 : ((C.1 : Int) == (cb : Int)) = false := by simpa using hsum0
              have HNO := Lib.hid hno
              have HCR := Lib.hid (HCRC.out w5)
              obtain ⟨pv, cv, rfl⟩ := hrow.shape
              clear HTY HTB HTE HTS HLT hR5 hrow hlt hno HCRC hsum0 hsum ho hx
              go_wp2_with fail
              refine HCR.out.mono ?_; rintro e w6 ⟨rfl, kk6⟩
              go_wp2_with fail
              go_ret2
              exact ⟨Or.inr ⟨HNO.out, rfl⟩, kept5.trans kk6⟩
          · have hno := HSR.out.at_.no HNIL.out (HTB.out ho)
            have HNO := Lib.hid hno
            clear HTY HTB HTE HTS HLT hR5 hno HCRC ho hlt hx
            go_wp2_with fail
            go_ret2
            exact ⟨Or.inr ⟨HNO.out, rfl⟩, kept5⟩
        · have hno := HSR.out.at_.no HNIL.out (HTE.out hx)
          have hx1 : (B.2.2 != 0) = true := by simpa using hx
          have hx2 : (B.2.2 == 0) = false := by simpa using hx
          have HNO := Lib.hid hno
          rcases hc with ⟨o, v, ho, hrow, rfl⟩ | ⟨ho, v, rfl⟩
          all_goals
            clear HTY HTB HTE HTS HLT hR5 hno HCRC ho
            go_wp2_with fail
            go_ret2
            exact ⟨Or.inr ⟨HNO.out, rfl⟩, kept5⟩
end Go.Proofs.Ytegbekeopgponaa
