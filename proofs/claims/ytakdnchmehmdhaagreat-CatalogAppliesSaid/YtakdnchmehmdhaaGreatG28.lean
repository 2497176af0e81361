/- Layer 13 (journal): runs and the next record, as the document reads them. -/
import Derived.Test.YtakdnchmehmdhaaGreatG22
namespace Go.Proofs.YtakdnchmehmdhaaGreat
open Go.RowKit
set_option linter.unusedVariables false
set_option linter.unusedSimpArgs false

theorem RrAt.reader {w : World} {b : Nat} {l : List UInt8} {x : Int} (h : RrAt w b l x) : ∃ cs, Own w b cs 93 := by
  obtain ⟨S, a, h1, _⟩ := h; exact ⟨_, h1⟩
theorem RrAt.small {w : World} {b : Nat} {l : List UInt8} {x : Int} (h : RrAt w b l x) : l.length ≤ 1000000 := by
  obtain ⟨S, a, _, _, h2, rfl, _⟩ := h
  rw [List.length_drop]; omega
theorem RrAt.off {w0 w : World} {b : Nat} {l : List UInt8} {x : Int} (h : RrAt w b l x) : OffRecs w0 w [b] := by
  obtain ⟨cs, o⟩ := h.reader
  exact OffRecs.one o (by decide) (by decide)
theorem RrAt.grown {w w5 : World} {b base size n : Nat} {e : TypeId} {v10 : Value} {xs : List Value} {l : List UInt8} {x : Int} (h : RrAt w b l x) (hr : w.ownsRow base e size v10 n xs) (hg : w.grownBy w5 v10.ownBlock) (h1 : e ≠ 93) : RrAt w5 b l x := by
  obtain ⟨S, a, o, h2⟩ := h
  exact ⟨S, a, own_grown hr hg o h1, h2⟩
theorem RunsNew.grown {w0 w w5 : World} {base size n : Nat} {e : TypeId} {u v10 : Value} {xs : List Value} {rs : List (Int × Int)} (h : RunsNew w0 w u rs) (hr : w.ownsRow base e size v10 n xs) (hg : w.grownBy w5 v10.ownBlock) (h1 : e ≠ 48) : RunsNew w0 w5 u rs :=
  ownsRow_same h (fun g cs hb hc => hg.block g (lt_of_block hc) (fun e' => own_row_ne hr (show Own w g cs 48 from hc) h1 e'.symm))
theorem qnum1 (b : Nat) (l : List UInt8) (x : Int) (w : World) (hR : RrAt w b l x) :
    Calls Tryz.prog 59 #[.pointer (some ⟨b, 0, none⟩), .int .i64 1] w fun r w' => r = .returned (.int .u64 (numR 1 l x).1) ∧ RrAt w' b (numR 1 l x).2.1 (numR 1 l x).2.2 ∧ Kept [b] w w' := rrNum b 1 l x w hR (by omega)
theorem qnum2 (b : Nat) (l : List UInt8) (x : Int) (w : World) (hR : RrAt w b l x) :
    Calls Tryz.prog 59 #[.pointer (some ⟨b, 0, none⟩), .int .i64 2] w fun r w' => r = .returned (.int .u64 (numR 2 l x).1) ∧ RrAt w' b (numR 2 l x).2.1 (numR 2 l x).2.2 ∧ Kept [b] w w' := rrNum b 2 l x w hR (by omega)
theorem qnum4 (b : Nat) (l : List UInt8) (x : Int) (w : World) (hR : RrAt w b l x) :
    Calls Tryz.prog 59 #[.pointer (some ⟨b, 0, none⟩), .int .i64 4] w fun r w' => r = .returned (.int .u64 (numR 4 l x).1) ∧ RrAt w' b (numR 4 l x).2.1 (numR 4 l x).2.2 ∧ Kept [b] w w' := rrNum b 4 l x w hR (by omega)
/-- what a call of ReadRuns tells. -/
def QRunsSays (b : Nat) (l : List UInt8) (x : Int) (w : World) (e : Ending) (w' : World) : Prop :=
  ∃ m v, e = .returned v ∧ m ≤ (numR 2 l x).1 ∧ RunsNew w w' v (runsR m (numR 2 l x).2.1 (numR 2 l x).2.2).1 ∧ RrAt w' b (runsR m (numR 2 l x).2.1 (numR 2 l x).2.2).2.1 (runsR m (numR 2 l x).2.1 (numR 2 l x).2.2).2.2 ∧ ((runsR m (numR 2 l x).2.1 (numR 2 l x).2.2).2.2 = 0 → m = (numR 2 l x).1) ∧ Kept [b] w w'
set_option maxRecDepth 100000 in
set_option maxHeartbeats 4000000 in
theorem qreadruns (b : Nat) (l : List UInt8) (x : Int) (w : World) (hR : RrAt w b l x) :
    Calls Tryz.prog 145 #[.pointer (some ⟨b, 0, none⟩)] w (QRunsSays b l x w) := by
  have hbw := hR.lt
  have hu := qnum2 b l x w hR
  have hn := numR_lt 2 l x
  have HN := Lib.hid hn
  have HU := Lib.hid hu
  unfold QRunsSays
  clear hn hu
  generalize numR 2 l x = N at *
  obtain ⟨n, l1, x1⟩ := N
  simp only at *
  go_enter Tryz.func145, Tryz.ntmps145
  go_wp2_with fail
  refine HU.out.mono ?_; rintro e w1 ⟨rfl, hR1, hk1⟩
  have hln : (n : Int) < 65536 := by have := HN.out; omega
  generalize hnn : (n : Int) = nn at *
  have HNN := Lib.hid hnn
  have HR1 := Lib.hid hR1
  clear hnn hR1 HU hR
  go_wp2_with fail
  go_loopw [4, 5, 6] (fun v4 i v6 wr => ∃ j : Nat, j ≤ n ∧ i = .int .u64 j ∧ RunsNew w wr v4 (runsR j l1 x1).1 ∧ RrAt wr b (runsR j l1 x1).2.1 (runsR j l1 x1).2.2 ∧ Kept [b] w wr) (fun _ i _ _ => n - (intOf i).toNat)
  case atStart => exact ⟨0, by omega, rfl, World.ownsRow_nil _ _ _ _, HR1.out, hk1⟩
  case round =>
    obtain ⟨j, hj, rfl, hrow, hR, hK⟩ := hrel
    have hsh := own_shape hrow
    rw [runsR_len] at hsh
    obtain ⟨p4, c4, rfl⟩ := hsh
    have hnx : runsR (j + 1) l1 x1 = ((runsR j l1 x1).1 ++ [(((numR 2 (runsR j l1 x1).2.1 (runsR j l1 x1).2.2).1 : Int), ((numR 2 (numR 2 (runsR j l1 x1).2.1 (runsR j l1 x1).2.2).2.1 (numR 2 (runsR j l1 x1).2.1 (runsR j l1 x1).2.2).2.2).1 : Int))],
                (numR 2 (numR 2 (runsR j l1 x1).2.1 (runsR j l1 x1).2.2).2.1 (numR 2 (runsR j l1 x1).2.1 (runsR j l1 x1).2.2).2.2).2) := rfl
    have hlen := runsR_len j l1 x1
    have hjb : j ≤ 65536 := by have := HN.out; omega
    generalize hRR : runsR j l1 x1 = RR at *
    have HRR := Lib.hid hRR
    clear hRR
    by_cases hlt : j < n
    · have i1 : (j : Int) < nn := by have := HNN.out; omega
      have hce := hR.err
      by_cases hx : RR.2.2 = 0
      · rw [hx] at hce
        have hu := qnum2 b RR.2.1 RR.2.2 wr hR
        have bu : ((numR 2 RR.2.1 RR.2.2).1 : Int) < 65536 := by have := numR_lt 2 RR.2.1 RR.2.2; omega
        generalize numR 2 RR.2.1 RR.2.2 = U1 at *
        have hv := fun W (h : RrAt W b U1.2.1 U1.2.2) => qnum2 b U1.2.1 U1.2.2 W h
        have bv : ((numR 2 U1.2.1 U1.2.2).1 : Int) < 65536 := by have := numR_lt 2 U1.2.1 U1.2.2; omega
        generalize numR 2 U1.2.1 U1.2.2 = U2 at *
        have ewu : IntKind.i64.wrap (U1.1 : Int) = (U1.1 : Int) := IntWalk.i64_in _ (by omega)
        have ewv : IntKind.i64.wrap (U2.1 : Int) = (U2.1 : Int) := IntWalk.i64_in _ (by omega)
        obtain ⟨i0, q0, q1, q2, q3⟩ := infoRun
        have HNX := Lib.hid hnx
        have HLEN := Lib.hid hlen
        have HU := Lib.hid hu
        have HV := Lib.hid hv
        have HROW := Lib.hid hrow
        have HRD := Lib.hid hR
        have HLT := Lib.hid hlt
        have hwr : w.heap.size ≤ wr.heap.size := hK.size
        have r3 : j + 1 ≤ maxLen := by unfold maxLen; omega
        have r4 : (j + 1) * 16 ≤ 140737488355328 := by omega
        clear hnx hlen hu hv hrow hR hx hlt hj hjb
        go_wp2_with fail
        refine HU.out.mono ?_; rintro e w3 ⟨rfl, hR3, hk3⟩
        have hv3 := HV.out _ hR3
        have HV3 := Lib.hid hv3
        clear hR3 HV hv3 HU
        go_wp2_with fail
        refine HV3.out.mono ?_; rintro e w4 ⟨rfl, hR4, hk4⟩
        have hk34 := hk3.trans hk4
        have hrow4 : w4.ownsRow w.heap.size 48 2 (.slice p4 j c4) j (rcells RR.1) := by
          have := HROW.out.keptT hk34 (fun y hy => Or.inl (by have : y = b := by simpa using hy
                                                              omega))
          unfold RunsNew at this
          rw [HLEN.out] at this
          exact this
        have HROW4 := Lib.hid hrow4
        have HR4 := Lib.hid hR4
        have hK4 : Kept [b] w w4 := hK.trans hk34
        have hw4 : w.heap.size ≤ w4.heap.size := hK4.size
        clear hk3 hk4 hrow4 hR4 HV3
        go_wp2_with (at_builtin; go_must (refine wpList_append_own_at _ rfl (.tmp 24) (.tmp 30) 45 rfl w.heap.size 48 i0 (.agg #[.int .i64 0, .int .i64 0]) 2 16 Tryz.underlying45 q0 q1 q2 q3 rfl (by decide) _ _ _ rfl (World.ownsRow.alloc HROW4.out _) ⟨w4.heap.size, 0, none⟩ 1 1 [.int .i64 (U1.1 : Int), .int .i64 (U2.1 : Int)] rfl rfl ?_ ?_ r3 r4 ?_ ?_))
        · exact World.news_of_block (heap_alloc_new w4 _)
        · intro u hu; simp at hu; rcases hu with rfl | rfl <;> rfl
        · simp; omega
        intro v6 w6 o6 gr6 _ _
        have hra := World.ownsRow.alloc HROW4.out (.cells #[.int .i64 (U1.1 : Int), .int .i64 (U2.1 : Int)] 48)
        have hR6 : RrAt w6 b U2.2.1 U2.2.2 := (HR4.out.kept ((Kept.refl [] w4).alloc _) (by simp)).grown hra gr6 (by decide)
        have hk6 : Kept [b] w w6 := (hK4.alloc _).grown gr6 (fun i hi => Or.inr (World.ownsRow.lt hra i hi).1)
        have ho6 : RunsNew w w6 v6 (RR.1 ++ [((U1.1 : Int), (U2.1 : Int))]) := by
          unfold RunsNew
          rw [rcells_snoc, List.length_append, List.length_singleton, HLEN.out]
          exact o6
        have HO6 := Lib.hid ho6
        have HR6 := Lib.hid hR6
        clear gr6 o6 hra hR6 ho6
        have hjs : IntKind.u64.wrap ((j : Int) + 1) = ((j + 1 : Nat) : Int) := by have := ju64_nat (j + 1) (by have := HLT.out; have := HN.out; omega); simpa using this
        go_wp2_with fail
        go_roundw
        case rel => exact ⟨j + 1, HLT.out, by first | rfl | go_num, by rw [HNX.out]; exact HO6.out, by rw [HNX.out]; exact HR6.out, hk6⟩
        case measure => (have hh := HLT.out; simp [intOf]; omega)
      · have hx1 : (RR.2.2 == 0) = false := by simpa using hx
        have HROW := Lib.hid hrow
        have HRD := Lib.hid hR
        have HX := Lib.hid hx
        clear hnx hlen hrow hR hx hlt hjb
        go_wp2_with fail
        go_ret
        exact ⟨j, _, rfl, hj, by rw [HRR.out]; exact HROW.out, by rw [HRR.out]; exact HRD.out, fun h => absurd (by rw [HRR.out] at h; exact h) HX.out, hK⟩
    · obtain rfl : j = n := by omega
      have i1 : ¬ ((j : Int) < nn) := by have := HNN.out; omega
      have HROW := Lib.hid hrow
      have HRD := Lib.hid hR
      clear hnx hlen hrow hR hlt hjb
      go_wp2_with fail
      go_ret
      exact ⟨j, _, rfl, hj, by rw [HRR.out]; exact HROW.out, by rw [HRR.out]; exact HRD.out, fun _ => rfl, hK⟩
/-- a record, half read. -/
structure RrSt (w wx : World) (b ob xb : Nat) (k : Int) (i : Nat) (t : List UInt8) (z : Nat) (v : Value) (rs : List (Int × Int)) (l : List UInt8) (x : Int) : Prop where
  rd : RrAt wx b l x
  out : Own wx ob #[.int .i64 0, .int .u32 0, .string { data := #[] }, .int .i64 0, .slice none 0 0] 55
  rcd : Own wx xb #[.int .i64 k, .int .u32 i, .string (bs t), .int .i64 z, v] 55
  row : RunsNew w wx v rs
  kept : Kept [b] w wx
  hb : b < w.heap.size
  hob : w.heap.size ≤ ob
  hxb : w.heap.size ≤ xb
  n3 : ob ≠ xb
section
variable {w wx wy : World} {b ob xb : Nat} {k : Int} {i : Nat} {t : List UInt8} {z : Nat} {v : Value} {rs : List (Int × Int)} {l l' : List UInt8} {x x' : Int}
/-- behind a call of the reader. -/
theorem RrSt.read (h : RrSt w wx b ob xb k i t z v rs l x) (hR : RrAt wy b l' x') (kk : Kept [b] wx wy) : RrSt w wy b ob xb k i t z v rs l' x' where
  rd := hR
  out := kk.own h.out (by have := h.hb; have := h.hob; simp; omega)
  rcd := kk.own h.rcd (by have := h.hb; have := h.hxb; simp; omega)
  row := ownsRow_kept h.row kk (by have := h.hb; simp; omega)
  kept := h.kept.call kk (by simp)
  hb := h.hb
  hob := h.hob
  hxb := h.hxb
  n3 := h.n3
theorem RrAt.other {b : Nat} (h : RrAt wx b l x) {p : Addr} (hp : b ≠ p.block) (u : Value) : RrAt (wx.setCell p u) b l x := by
  obtain ⟨S, a, o, h2⟩ := h
  exact ⟨S, a, o.other hp u, h2⟩
theorem RrSt.set (h : RrSt w wx b ob xb k i t z v rs l x) (j : Nat) (u : Value) (k' : Int) (i' : Nat) (t' : List UInt8) (z' : Nat)
    (e : (#[.int .i64 k, .int .u32 i, .string (bs t), .int .i64 z, v] : Array Value).setIfInBounds j u = #[.int .i64 k', .int .u32 i', .string (bs t'), .int .i64 z', v]) :
    RrSt w (wx.setCell ⟨xb, j, none⟩ u) b ob xb k' i' t' z' v rs l x where
  rd := h.rd.other (p := ⟨xb, j, none⟩) (by have := h.hb; have := h.hxb; show b ≠ xb; omega) u
  out := h.out.other (p := ⟨xb, j, none⟩) h.n3 u
  rcd := by rw [← e]; exact h.rcd.set j u
  row := ownsRow_other h.row (p := ⟨xb, j, none⟩) (own_row_ne h.row h.rcd (by decide)) u
  kept := h.kept.setCell (p := ⟨xb, j, none⟩) (Or.inr h.hxb) u
  hb := h.hb
  hob := h.hob
  hxb := h.hxb
  n3 := h.n3
/-- its runs stored. -/
theorem RrSt.set4 (h : RrSt w wx b ob xb k i t z v rs l x) {v' : Value} {rs' : List (Int × Int)} (hr : RunsNew w wx v' rs') :
    RrSt w (wx.setCell ⟨xb, 4, none⟩ v') b ob xb k i t z v' rs' l x where
  rd := h.rd.other (p := ⟨xb, 4, none⟩) (by have := h.hb; have := h.hxb; show b ≠ xb; omega) v'
  out := h.out.other (p := ⟨xb, 4, none⟩) h.n3 v'
  rcd := h.rcd.set 4 v'
  row := ownsRow_other hr (p := ⟨xb, 4, none⟩) (own_row_ne hr h.rcd (by decide)) v'
  kept := h.kept.setCell (p := ⟨xb, 4, none⟩) (Or.inr h.hxb) v'
  hb := h.hb
  hob := h.hob
  hxb := h.hxb
  n3 := h.n3
end
/-- what a call of 'one' tells. -/
def OneSays (b : Nat) (l : List UInt8) (w : World) (e : Ending) (w' : World) : Prop :=
  ∃ m v, e = .returned (.agg ((oneR m l).1.cells v)) ∧ m ≤ (nR l).1 ∧ RunsNew w w' v (oneR m l).1.runs ∧ RrAt w' b (oneR m l).2.1 (oneR m l).2.2 ∧ ((oneR m l).2.2 = 0 → m = (nR l).1) ∧ Kept [b] w w'
set_option maxRecDepth 100000 in
set_option maxHeartbeats 4000000 in
theorem qone (b : Nat) (l : List UInt8) (w : World) (hR : RrAt w b l 0) :
    Calls Tryz.prog 120 #[.pointer (some ⟨b, 0, none⟩)] w (OneSays b l w) := by
  have hbw := hR.lt
  have o1 := Own.new w #[.int .i64 0, .int .u32 0, .string { data := #[] }, .int .i64 0, .slice none 0 0] 55
  have k0 := (Kept.refl [b] w).alloc (.cells #[.int .i64 0, .int .u32 0, .string { data := #[] }, .int .i64 0, .slice none 0 0] 55)
  have hR0 := hR.kept ((Kept.refl [] w).alloc (.cells #[.int .i64 0, .int .u32 0, .string { data := #[] }, .int .i64 0, .slice none 0 0] 55)) (by simp)
  have hkd : ((kdR l).1 : Int) < 256 := by have : (kdR l).1 < 256 := numR_lt 1 l 0; omega
  have hku : IntKind.i64.wrap ((kdR l).1 : Int) = ((kdR l).1 : Int) := IntWalk.i64_in _ (by omega)
  have h8 : Calls Tryz.prog 59 #[.pointer (some ⟨b, 0, none⟩), .int .i64 1] _ fun r w' => r = .returned (.int .u64 (kdR l).1) ∧ RrAt w' b (kdR l).2.1 (kdR l).2.2 ∧ Kept [b] _ w' := qnum1 b l 0 _ hR0
  have hjh := fun W => qhas ((kdR l).1 : Int) W
  have eI : iR l = if kId ((kdR l).1 : Int) then numR 4 (kdR l).2.1 (kdR l).2.2 else (0, (kdR l).2.1, (kdR l).2.2) := rfl
  have eT : tR l = if kName ((kdR l).1 : Int) then textR (iR l).2.1 (iR l).2.2 else ([], (iR l).2.1, (iR l).2.2) := rfl
  have eZ : zR l = if kBlob ((kdR l).1 : Int) then numR 4 (tR l).2.1 (tR l).2.2 else (0, (tR l).2.1, (tR l).2.2) := rfl
  have eN : nR l = if kBlob ((kdR l).1 : Int) then numR 2 (zR l).2.1 (zR l).2.2 else (0, (zR l).2.1, (zR l).2.2) := rfl
  have bi : ((iR l).1 : Int) < 4294967296 := by
    have hh := idR_fits ((kdR l).1 : Int) (kdR l).2.1 (kdR l).2.2
    have := bd32 hh
    have e : iR l = idR ((kdR l).1 : Int) (kdR l).2.1 (kdR l).2.2 := rfl
    rw [e]; omega
  have bz : ((zR l).1 : Int) < 4294967296 := by have := szR_lt ((kdR l).1 : Int) (tR l).2.1 (tR l).2.2; have e : zR l = szR ((kdR l).1 : Int) (tR l).2.1 (tR l).2.2 := rfl; rw [e]; omega
  have hone : ∀ m, oneR m l = (⟨((kdR l).1 : Int), ((iR l).1 : Int), (tR l).1, ((zR l).1 : Int), (runsR m (nR l).2.1 (nR l).2.2).1⟩, (runsR m (nR l).2.1 (nR l).2.2).2) := fun m => rfl
  have H8 := Lib.hid h8
  have HJ := Lib.hid hjh
  have EI := Lib.hid eI
  have ET := Lib.hid eT
  have EZ := Lib.hid eZ
  have EN := Lib.hid eN
  have ONE := Lib.hid hone
  clear h8 hR0 hjh eI eT eZ eN hone hR
  unfold OneSays
  generalize kdR l = KD at *
  generalize iR l = IR at *
  generalize tR l = TR at *
  generalize zR l = ZR at *
  generalize nR l = NR at *
  go_enter Tryz.func120, Tryz.ntmps120
  go_wp2_with fail
  refine H8.out.mono ?_; rintro e w1 ⟨rfl, hR1, kk1⟩
  have hst : RrSt w (w1.alloc (.cells #[.int .i64 (KD.1 : Int), .int .u32 0, .string { data := #[] }, .int .i64 0, .slice none 0 0] 55)) b w.heap.size w1.heap.size (KD.1 : Int) 0 [] 0 (.slice none 0 0) [] KD.2.1 KD.2.2 := by
    have p1 := kk1.own o1 (by simp; omega)
    have l1 := p1.lt
    exact ⟨hR1.kept ((Kept.refl [] w1).alloc _) (by simp), p1.alloc _, Own.new _ _ _, World.ownsRow_nil _ _ _ _, (k0.trans kk1).alloc _, hbw, Nat.le_refl _, by omega, by omega⟩
  have HST := Lib.hid hst
  obtain ⟨a0, a1, a2, a3, a4⟩ := hst.rcd.c5
  clear hst kk1 hR1 k0 o1 H8
  obtain ⟨kd, l1, x1⟩ := KD
  simp only at *
  go_wp2_with fail
  refine (HJ.out _).mono ?_; rintro e w' ⟨rfl, rfl⟩
  clear HJ
  generalize kId (kd : Int) = I at *
  generalize kName (kd : Int) = N at *
  generalize kBlob (kd : Int) = B at *
  go_upto_if 18 with fail
  go_cut [18] (fun v18 wx => RrSt w wx b w.heap.size w1.heap.size (kd : Int) IR.1 [] 0 (.slice none 0 0) [] IR.2.1 IR.2.2)
  case first =>
    cases I
    · have e := EI.out
      rw [if_neg (by decide)] at e
      have hh := HST.out
      go_wp2_with fail
      go_meet
      rw [e]
      exact hh
    · have e := EI.out
      rw [if_pos rfl] at e
      have hu := qnum4 b l1 x1 _ HST.out.rd
      rw [← e] at hu
      have HU := Lib.hid hu
      have ew : IntKind.u32.wrap (IR.1 : Int) = (IR.1 : Int) := ju32_nat IR.1 (by omega)
      clear hu e
      go_wp2_with fail
      refine HU.out.mono ?_; rintro e w2 ⟨rfl, hR2, kk2⟩
      have hs2 := HST.out.read hR2 kk2
      have hs3 := hs2.set 1 (.int .u32 IR.1) kd IR.1 [] 0 rfl
      have z1 := hs2.rcd.free 1
      obtain ⟨b0, b1, b2, b3, b4⟩ := hs2.rcd.c5
      have HS3 := Lib.hid hs3
      clear hs3 hs2 hR2 kk2
      go_wp2_with fail
      go_meet
      exact HS3.out
  case rest =>
    clear HST EI a0 a1 a2 a3 a4
    generalize w1.heap.size = xb at *
    obtain ⟨a0, a1, a2, a3, a4⟩ := hcut.rcd.c5
    have HST := Lib.hid hcut
    clear hcut
    go_upto_if 23 with fail
    go_cut [23] (fun v23 wx => RrSt w wx b w.heap.size xb (kd : Int) IR.1 TR.1 0 (.slice none 0 0) [] TR.2.1 TR.2.2)
    case first =>
      cases N
      · have e := ET.out
        rw [if_neg (by decide)] at e
        have hh := HST.out
        go_wp2_with fail
        go_meet
        rw [e]
        exact hh
      · have e := ET.out
        rw [if_pos rfl] at e
        have hu := rrText b IR.2.1 IR.2.2 _ HST.out.rd
        rw [← e] at hu
        have HU := Lib.hid hu
        clear hu e
        go_wp2_with fail
        refine HU.out.mono ?_; rintro e w2 ⟨rfl, hR2, kk2⟩
        have hs2 := HST.out.read hR2 kk2
        have hs3 := hs2.set 2 (.string (bs TR.1)) kd IR.1 TR.1 0 rfl
        have z1 := hs2.rcd.free 2
        obtain ⟨b0, b1, b2, b3, b4⟩ := hs2.rcd.c5
        have HS3 := Lib.hid hs3
        clear hs3 hs2 hR2 kk2
        go_wp2_with fail
        go_meet
        exact HS3.out
    case rest =>
      clear HST ET a0 a1 a2 a3 a4
      obtain ⟨a0, a1, a2, a3, a4⟩ := hcut.rcd.c5
      have HST := Lib.hid hcut
      clear hcut
      go_upto_if 27 with fail
      go_cut [27] (fun v27 wx => ∃ m v, RrSt w wx b w.heap.size xb (kd : Int) IR.1 TR.1 ZR.1 v (runsR m NR.2.1 NR.2.2).1 (runsR m NR.2.1 NR.2.2).2.1 (runsR m NR.2.1 NR.2.2).2.2 ∧ m ≤ NR.1 ∧ ((runsR m NR.2.1 NR.2.2).2.2 = 0 → m = NR.1))
      case first =>
        cases B
        · have e1 := EZ.out
          have e2 := EN.out
          rw [if_neg (by decide)] at e1 e2
          have hh := HST.out
          have hm0 : 0 = NR.1 := by rw [e2]
          go_wp2_with fail
          go_meet
          refine ⟨0, .slice none 0 0, ?_, Nat.zero_le _, fun _ => hm0⟩
          rw [e2, e1]
          exact hh
        · have e1 := EZ.out
          have e2 := EN.out
          rw [if_pos rfl] at e1 e2
          have hu := qnum4 b TR.2.1 TR.2.2 _ HST.out.rd
          rw [← e1] at hu
          have hv := fun W (h : RrAt W b ZR.2.1 ZR.2.2) => qreadruns b ZR.2.1 ZR.2.2 W h
          unfold QRunsSays at hv
          rw [← e2] at hv
          have HU := Lib.hid hu
          have HV := Lib.hid hv
          have ew : IntKind.i64.wrap (ZR.1 : Int) = (ZR.1 : Int) := IntWalk.i64_in _ (by omega)
          clear hu hv e1 e2
          go_wp2_with fail
          refine HU.out.mono ?_; rintro e w2 ⟨rfl, hR2, kk2⟩
          have hs2 := HST.out.read hR2 kk2
          have hs3 := hs2.set 3 (.int .i64 (ZR.1 : Int)) kd IR.1 TR.1 ZR.1 rfl
          have z1 := hs2.rcd.free 3
          obtain ⟨b0, b1, b2, b3, b4⟩ := hs2.rcd.c5
          have hv1 := HV.out _ hs3.rd
          have HV1 := Lib.hid hv1
          have HS3 := Lib.hid hs3
          clear hs3 hs2 hR2 kk2 hv1 HU HV
          go_wp2_with fail
          refine HV1.out.mono ?_; rintro e w3 ⟨m, v, rfl, hm, hrow, hR3, hm2, kk3⟩
          have hs4 := HS3.out.read hR3 kk3
          have hs5 := hs4.set4 (hrow.base HS3.out.kept.size)
          have HS5 := Lib.hid hs5
          have HM := Lib.hid hm
          have HM2 := Lib.hid hm2
          have z4 := hs4.rcd.free 4
          obtain ⟨p, c, rfl⟩ := own_shape hrow
          clear b0 b1 b2 b3 b4
          obtain ⟨b0, b1, b2, b3, b4⟩ := hs4.rcd.c5
          clear hs4 hs5 kk3 hR3 HV1 HS3 hm hm2 hrow z1 a0 a1 a2 a3 a4 HST
          go_wp2_with fail
          go_meet
          exact ⟨m, _, HS5.out, HM.out, HM2.out⟩
      case rest =>
        obtain ⟨m, v, hst, hm, hm2⟩ := hcut
        clear HST a0 a1 a2 a3 a4 EZ EN
        have hone := ONE.out m
        generalize runsR m NR.2.1 NR.2.2 = RR at *
        have hsh := own_shape hst.row
        obtain ⟨pv, cv, rfl⟩ := hsh
        obtain ⟨a0, a1, a2, a3, a4⟩ := hst.rcd.c5
        obtain ⟨o0, o1, o2, o3, o4⟩ := hst.out.c5
        have z0 := hst.out.z5
        have n3 := hst.n3
        have hhb := hst.hb
        have HSTT := Lib.hid hst
        have HONE := Lib.hid hone
        have HM := Lib.hid hm
        have HM2 := Lib.hid hm2
        clear hst hone ONE hm hm2
        go_wp2_with fail
        have ks := (Kept.refl [w.heap.size] wc).set5 (b := w.heap.size) (Or.inl (by simp)) (.int .i64 (kd : Int)) (.int .u32 (IR.1 : Int)) (.string (bs TR.1)) (.int .i64 (ZR.1 : Int)) (.slice pv RR.1.length cv)
        refine bodyPost_ret (v := .agg #[.int .i64 (kd : Int), .int .u32 (IR.1 : Int), .string (bs TR.1), .int .i64 (ZR.1 : Int), .slice pv RR.1.length cv]) ?_ ?_ ?_
        · exact ret_row Tryz.results120 rfl (HSTT.out.out.set5 _ _ _ _ _) Tryz.underlying55 rfl (by kernel_rfl)
        · rfl
        · refine ⟨m, .slice pv RR.1.length cv, by rw [HONE.out]; rfl, HM.out, ?_, ?_, ?_, HSTT.out.kept.call ks (fun y hy => Or.inr (Nat.le_of_eq (List.mem_singleton.1 hy).symm))⟩
          · rw [HONE.out]; exact ownsRow_keptO HSTT.out.row ks HSTT.out.out (by decide)
          · rw [HONE.out]; exact HSTT.out.rd.kept ks (by simp; omega)
          · rw [HONE.out]; exact HM2.out
end Go.Proofs.YtakdnchmehmdhaaGreat
