/- Layer 13 (journal): the next record, as the program reads it. -/
import Derived.Test.YtakdnchmehmdhaaGreatG04
import Derived.Test.YtakdnchmehmdhaaGreatG08
import Derived.Test.YtakdnchmehmdhaaGreatG20
import Derived.Deep.RegionLaw
import Derived.Deep.RegionWith
import Derived.Deep.RegionHeld3
import Derived.Deep.CutBlock
import Derived.Deep.DeepCutAuto
namespace Go.Proofs.YtakdnchmehmdhaaGreat
open Go.RowKit
set_option linter.unusedVariables false
set_option linter.unusedSimpArgs false

/-- a row of runs of the run's own, made since w0. -/
def RunsNew (w0 w : World) (v : Value) (l : List (Int × Int)) : Prop := w.ownsRow w0.heap.size 48 2 v l.length (rcells l)
/-- a record, half read. -/
structure RecSt (w wx : World) (b rb ob xb : Nat) (k : Int) (i : Nat) (t : List UInt8) (z : Nat) (v : Value) (rs : List (Int × Int)) (l : List UInt8) (x : Int) : Prop where
  rd : RdAt wx b l x
  box : Own wx rb #[.pointer (some ⟨b, 0, none⟩)] 119
  out : Own wx ob #[.int .i64 0, .int .u32 0, .string { data := #[] }, .int .i64 0, .slice none 0 0] 55
  rcd : Own wx xb #[.int .i64 k, .int .u32 i, .string (bs t), .int .i64 z, v] 55
  row : RunsNew w wx v rs
  kept : Kept [b] w wx
  hb : b < w.heap.size
  hrb : w.heap.size ≤ rb
  hob : w.heap.size ≤ ob
  hxb : w.heap.size ≤ xb
  n1 : rb ≠ ob
  n2 : rb ≠ xb
  n3 : ob ≠ xb
theorem Own.set5 {w : World} {b : Nat} {x0 x1 x2 x3 x4 : Value} {t : TypeId} (h : Own w b #[x0, x1, x2, x3, x4] t) (y0 y1 y2 y3 y4 : Value) :
    Own (((((w.setCell ⟨b, 0, none⟩ y0).setCell ⟨b, 1, none⟩ y1).setCell ⟨b, 2, none⟩ y2).setCell ⟨b, 3, none⟩ y3).setCell ⟨b, 4, none⟩ y4) b #[y0, y1, y2, y3, y4] t := by
  have := ((((h.set 0 y0).set 1 y1).set 2 y2).set 3 y3).set 4 y4
  simpa using this
theorem Kept.set5 {S : List Nat} {a w : World} {b : Nat} (h : Kept S a w) (hp : b ∈ S ∨ a.heap.size ≤ b) (y0 y1 y2 y3 y4 : Value) : Kept S a (((((w.setCell ⟨b, 0, none⟩ y0).setCell ⟨b, 1, none⟩ y1).setCell ⟨b, 2, none⟩ y2).setCell ⟨b, 3, none⟩ y3).setCell ⟨b, 4, none⟩ y4) :=
  ((((h.setCell (p := ⟨b, 0, none⟩) hp y0).setCell (p := ⟨b, 1, none⟩) hp y1).setCell (p := ⟨b, 2, none⟩) hp y2).setCell (p := ⟨b, 3, none⟩) hp y3).setCell (p := ⟨b, 4, none⟩) hp y4
section
variable {w wx wy : World} {b rb ob xb : Nat} {k : Int} {i : Nat} {t : List UInt8} {z : Nat} {v : Value} {rs : List (Int × Int)} {l l' : List UInt8} {x x' : Int}
theorem RecSt.ptr (h : RecSt w wx b rb ob xb k i t z v rs l x) : wx.cell? ⟨rb, 0, none⟩ = some (.pointer (some ⟨b, 0, none⟩)) := h.box.cell 0 (by simp)
/-- behind a call of the reader. -/
theorem RecSt.read (h : RecSt w wx b rb ob xb k i t z v rs l x) (hR : RdAt wy b l' x') (kk : Kept [b] wx wy) : RecSt w wy b rb ob xb k i t z v rs l' x' where
  rd := hR
  box := kk.own h.box (by have := h.hb; have := h.hrb; simp; omega)
  out := kk.own h.out (by have := h.hb; have := h.hob; simp; omega)
  rcd := kk.own h.rcd (by have := h.hb; have := h.hxb; simp; omega)
  row := ownsRow_kept h.row kk (by have := h.hb; simp; omega)
  kept := h.kept.call kk (by simp)
  hb := h.hb
  hrb := h.hrb
  hob := h.hob
  hxb := h.hxb
  n1 := h.n1
  n2 := h.n2
  n3 := h.n3
theorem RecSt.keep (h : RecSt w wx b rb ob xb k i t z v rs l x) (kk : Kept [] wx wy) : RecSt w wy b rb ob xb k i t z v rs l x :=
  h.read (kk.own h.rd (by simp)) (kk.mono (by simp))
theorem RecSt.set (h : RecSt w wx b rb ob xb k i t z v rs l x) (j : Nat) (u : Value) (k' : Int) (i' : Nat) (t' : List UInt8) (z' : Nat)
    (e : (#[.int .i64 k, .int .u32 i, .string (bs t), .int .i64 z, v] : Array Value).setIfInBounds j u = #[.int .i64 k', .int .u32 i', .string (bs t'), .int .i64 z', v]) :
    RecSt w (wx.setCell ⟨xb, j, none⟩ u) b rb ob xb k' i' t' z' v rs l x where
  rd := Own.other h.rd (p := ⟨xb, j, none⟩) (by have := h.hb; have := h.hxb; show b ≠ xb; omega) u
  box := h.box.other (p := ⟨xb, j, none⟩) h.n2 u
  out := h.out.other (p := ⟨xb, j, none⟩) h.n3 u
  rcd := by rw [← e]; exact h.rcd.set j u
  row := ownsRow_other h.row (p := ⟨xb, j, none⟩) (own_row_ne h.row h.rcd (by decide)) u
  kept := h.kept.setCell (p := ⟨xb, j, none⟩) (Or.inr h.hxb) u
  hb := h.hb
  hrb := h.hrb
  hob := h.hob
  hxb := h.hxb
  n1 := h.n1
  n2 := h.n2
  n3 := h.n3
end
theorem RecSt.more {w w4 w5 : World} {b rb ob xb : Nat} {k : Int} {i : Nat} {t : List UInt8} {z : Nat} {v v' : Value} {rs : List (Int × Int)} {l : List UInt8} {x : Int} {o : Obj} {a c : Int}
    (h : RecSt w w4 b rb ob xb k i t z v rs l x) (hg : (w4.alloc o).grownBy w5 v.ownBlock) (hr : w5.ownsRow w.heap.size 48 2 v' (rs.length + 1) (rcells rs ++ [.int .i64 a, .int .i64 c])) :
    RecSt w (w5.setCell ⟨xb, 4, none⟩ v') b rb ob xb k i t z v' (rs ++ [(a, c)]) l x := by
  have hrow := World.ownsRow.alloc h.row o
  have hrec := own_grown hrow hg (h.rcd.alloc o) (by decide)
  have hk5 : Kept [b] w w5 := (h.kept.alloc o).grown hg (fun j hj => Or.inr (by have := (World.ownsRow.lt hrow j hj).1; omega))
  have hr' : w5.ownsRow w.heap.size 48 2 v' (rs ++ [(a, c)]).length (rcells (rs ++ [(a, c)])) := by
    rw [rcells_snoc, List.length_append, List.length_singleton]; exact hr
  have h4 := hrec.set 4 v'
  exact ⟨Own.other (own_grown hrow hg (Own.alloc h.rd o) (by decide)) (p := ⟨xb, 4, none⟩) (by have := h.hb; have := h.hxb; show b ≠ xb; omega) v', (own_grown hrow hg (h.box.alloc o) (by decide)).other (p := ⟨xb, 4, none⟩) h.n2 v', (own_grown hrow hg (h.out.alloc o) (by decide)).other (p := ⟨xb, 4, none⟩) h.n3 v', h4, ownsRow_other hr' (p := ⟨xb, 4, none⟩) (own_row_ne hr' hrec (by decide)) v', hk5.setCell (p := ⟨xb, 4, none⟩) (Or.inr h.hxb) v', h.hb, h.hrb, h.hob, h.hxb, h.n1, h.n2, h.n3⟩
/-- what a call of 'record' tells. -/
def RecordSays (b : Nat) (l : List UInt8) (w : World) (e : Ending) (w' : World) : Prop :=
  ∃ (r : JRec) (v : Value), RunsNew w w' v r.runs ∧ r.fits ∧ Kept [b] w w' ∧ ((∃ rest, recO l = some (r, rest) ∧ RdAt w' b rest 0 ∧ e = .returned (.tuple #[.agg (r.cells v), .bool true])) ∨ (recO l = none ∧ e = .returned (.tuple #[.agg (r.cells v), .bool false])))
set_option maxRecDepth 100000 in
set_option maxHeartbeats 6000000 in
theorem jrecord (b : Nat) (l : List UInt8) (w : World) (hR : RdAt w b l 0) :
    Calls Tryz.prog 116 #[.agg #[.pointer (some ⟨b, 0, none⟩)]] w (RecordSays b l w) := by
  have hbw := Own.lt hR
  have h8 := fun W h => rdU8 b l 0 W h
  have hkd : ((kdR l).1 : Int) < 256 := by have : (kdR l).1 < 256 := numR_lt 1 l 0; omega
  have o0 := Own.new w #[.pointer (some ⟨b, 0, none⟩)] 119
  have o1 := Own.new (w.alloc (.cells #[.pointer (some ⟨b, 0, none⟩)] 119)) #[.int .i64 0, .int .u32 0, .string { data := #[] }, .int .i64 0, .slice none 0 0] 55
  rw [World.size_alloc] at o1
  have o0' := o0.alloc (.cells #[.int .i64 0, .int .u32 0, .string { data := #[] }, .int .i64 0, .slice none 0 0] 55)
  have hR0 := (Own.alloc hR (.cells #[.pointer (some ⟨b, 0, none⟩)] 119)).alloc (.cells #[.int .i64 0, .int .u32 0, .string { data := #[] }, .int .i64 0, .slice none 0 0] 55)
  have k0 := ((Kept.refl [b] w).alloc (.cells #[.pointer (some ⟨b, 0, none⟩)] 119)).alloc (.cells #[.int .i64 0, .int .u32 0, .string { data := #[] }, .int .i64 0, .slice none 0 0] 55)
  have H8 := Lib.hid (h8 _ hR0)
  have HKD : Hid (numR 1 l 0 = kdR l) := rfl
  rw [HKD.out] at H8
  clear h8 hR0 o0
  go_enter Tryz.func116, Tryz.ntmps116
  go_wp2_with fail
  refine H8.out.mono ?_; rintro e w1 ⟨rfl, hR1, kk1⟩
  have hst : RecSt w (w1.alloc (.cells #[.int .i64 ((kdR l).1 : Int), .int .u32 0, .string { data := #[] }, .int .i64 0, .slice none 0 0] 55)) b w.heap.size (w.heap.size + 1) w1.heap.size ((kdR l).1 : Int) 0 [] 0 (.slice none 0 0) [] (kdR l).2.1 (kdR l).2.2 := by
    have p0 := kk1.own o0' (by simp; omega)
    have p1 := kk1.own o1 (by simp; omega)
    have l0 := p0.lt
    have l1 := p1.lt
    exact ⟨Own.alloc hR1 _, p0.alloc _, p1.alloc _, Own.new _ _ _, World.ownsRow_nil _ _ _ _, (k0.trans kk1).alloc _, hbw, Nat.le_refl _, by omega, by omega, by omega, by omega, by omega⟩
  have HST := Lib.hid hst
  clear hst kk1 hR1 k0 o1 o0' H8 hR
  have hjh := fun W => jhas ((kdR l).1 : Int) W
  have eI : iR l = if kId ((kdR l).1 : Int) then numR 4 (kdR l).2.1 (kdR l).2.2 else (0, (kdR l).2.1, (kdR l).2.2) := rfl
  have eT : tR l = if kName ((kdR l).1 : Int) then textR (iR l).2.1 (iR l).2.2 else ([], (iR l).2.1, (iR l).2.2) := rfl
  have eZ : zR l = if kBlob ((kdR l).1 : Int) then numR 4 (tR l).2.1 (tR l).2.2 else (0, (tR l).2.1, (tR l).2.2) := rfl
  have eN : nR l = if kBlob ((kdR l).1 : Int) then numR 2 (zR l).2.1 (zR l).2.2 else (0, (zR l).2.1, (zR l).2.2) := rfl
  have bz : ((zR l).1 : Int) < 4294967296 := by have := szR_lt ((kdR l).1 : Int) (tR l).2.1 (tR l).2.2; have e : zR l = szR ((kdR l).1 : Int) (tR l).2.1 (tR l).2.2 := rfl; rw [e]; omega
  have bn : ((nR l).1 : Int) < 65536 := by have := ctR_lt ((kdR l).1 : Int) (zR l).2.1 (zR l).2.2; have e : nR l = ctR ((kdR l).1 : Int) (zR l).2.1 (zR l).2.2 := rfl; rw [e]; omega
  have hfin := recO_few l
  have hfit := oneR_fits (min (nR l).1 17) l
  unfold oneR at hfin hfit
  have HJ := Lib.hid hjh
  have EI := Lib.hid eI
  have ET := Lib.hid eT
  have EZ := Lib.hid eZ
  have EN := Lib.hid eN
  have FIN := Lib.hid hfin
  have FIT := Lib.hid hfit
  have hbd := runsR_bd (min (nR l).1 17) (nR l).2.1 (nR l).2.2
  have hrl := runsR_len (min (nR l).1 17) (nR l).2.1 (nR l).2.2
  have BD := Lib.hid hbd
  clear hjh eI eT eZ eN hfin hfit HKD hbd
  generalize kdR l = KD at *
  generalize iR l = IR at *
  generalize tR l = TR at *
  generalize zR l = ZR at *
  generalize nR l = NR at *
  obtain ⟨kd, l1, x1⟩ := KD
  simp only at *
  have cr := HST.out.ptr
  obtain ⟨a0, a1, a2, a3, a4⟩ := HST.out.rcd.c5
  go_wp2_with fail
  refine (HJ.out _).mono ?_; rintro e w' ⟨rfl, rfl⟩
  clear HJ
  generalize kId (kd : Int) = I at *
  generalize kName (kd : Int) = N at *
  generalize kBlob (kd : Int) = B at *
  go_upto_if 22 with fail
  go_cut [22] (fun v22 wx => RecSt w wx b w.heap.size (w.heap.size + 1) w1.heap.size (kd : Int) IR.1 [] 0 (.slice none 0 0) [] IR.2.1 IR.2.2)
  case first =>
    cases I
    · have e := EI.out
      rw [if_neg (by decide)] at e
      have hh := HST.out
      go_wp2_with fail
      go_meet
      rw [e]
      exact hh
    · have e := EI.out
      rw [if_pos rfl] at e
      have hu := rdU32 b l1 x1 _ HST.out.rd
      rw [← e] at hu
      have HU := Lib.hid hu
      clear hu e
      go_wp2_with fail
      refine HU.out.mono ?_; rintro e w2 ⟨rfl, hR2, kk2⟩
      have hs2 := HST.out.read hR2 kk2
      have hs3 := hs2.set 1 (.int .u32 IR.1) kd IR.1 [] 0 rfl
      have z1 := hs2.rcd.free 1
      obtain ⟨b0, b1, b2, b3, b4⟩ := hs2.rcd.c5
      have HS3 := Lib.hid hs3
      clear hs3 hs2 hR2 kk2
      go_wp2_with fail
      go_meet
      exact HS3.out
  case rest =>
    clear HST EI cr a0 a1 a2 a3 a4
    generalize w1.heap.size = xb at *
    have cr := hcut.ptr
    obtain ⟨a0, a1, a2, a3, a4⟩ := hcut.rcd.c5
    have HST := Lib.hid hcut
    clear hcut
    go_upto_if 27 with fail
    go_cut [27] (fun v27 wx => RecSt w wx b w.heap.size (w.heap.size + 1) xb (kd : Int) IR.1 TR.1 0 (.slice none 0 0) [] TR.2.1 TR.2.2)
    case first =>
      cases N
      · have e := ET.out
        rw [if_neg (by decide)] at e
        have hh := HST.out
        go_wp2_with fail
        go_meet
        rw [e]
        exact hh
      · have e := ET.out
        rw [if_pos rfl] at e
        have hu := rdText b IR.2.1 IR.2.2 _ HST.out.rd
        rw [← e] at hu
        have HU := Lib.hid hu
        clear hu e
        go_wp2_with fail
        refine HU.out.mono ?_; rintro e w2 ⟨rfl, hR2, kk2⟩
        have hs2 := HST.out.read hR2 kk2
        have hs3 := hs2.set 2 (.string (bs TR.1)) kd IR.1 TR.1 0 rfl
        have z1 := hs2.rcd.free 2
        obtain ⟨b0, b1, b2, b3, b4⟩ := hs2.rcd.c5
        have HS3 := Lib.hid hs3
        clear hs3 hs2 hR2 kk2
        go_wp2_with fail
        go_meet
        exact HS3.out
    case rest =>
      clear HST ET cr a0 a1 a2 a3 a4
      have cr := hcut.ptr
      obtain ⟨a0, a1, a2, a3, a4⟩ := hcut.rcd.c5
      have HST := Lib.hid hcut
      clear hcut
      generalize hm : min NR.1 17 = m at *
      have hm17 : m ≤ 17 := by omega
      have HM := Lib.hid hm
      go_upto_if 32 with fail
      go_cut [8, 9, 32] (fun v8 v9 v32 wx => ∃ v, RecSt w wx b w.heap.size (w.heap.size + 1) xb (kd : Int) IR.1 TR.1 ZR.1 v (runsR m NR.2.1 NR.2.2).1 (runsR m NR.2.1 NR.2.2).2.1 (runsR m NR.2.1 NR.2.2).2.2)
      case first =>
        cases B
        · have e1 := EZ.out
          have e2 := EN.out
          rw [if_neg (by decide)] at e1 e2
          have hh := HST.out
          have hm0 : m = 0 := by rw [← hm, e2]; rfl
          go_wp2_with fail
          go_meet
          refine ⟨.slice none 0 0, ?_⟩
          rw [hm0, e2, e1]
          exact hh
        · have e1 := EZ.out
          have e2 := EN.out
          rw [if_pos rfl] at e1 e2
          have hu := rdU32 b TR.2.1 TR.2.2 _ HST.out.rd
          rw [← e1] at hu
          have hv := fun W (h : RdAt W b ZR.2.1 ZR.2.2) => rdU16 b ZR.2.1 ZR.2.2 W h
          rw [← e2] at hv
          have HU := Lib.hid hu
          have HV := Lib.hid hv
          have hmi : min (NR.1 : Int) 17 = (m : Int) := by omega
          clear hu hv e1 e2 hm
          go_wp2_with fail
          refine HU.out.mono ?_; rintro e w2 ⟨rfl, hR2, kk2⟩
          have hs2 := HST.out.read hR2 kk2
          have hs3 := hs2.set 3 (.int .i64 (ZR.1 : Int)) kd IR.1 TR.1 ZR.1 rfl
          have z1 := hs2.rcd.free 3
          have cr2 := hs3.ptr
          obtain ⟨b0, b1, b2, b3, b4⟩ := hs2.rcd.c5
          have hv1 := HV.out _ hs3.rd
          have HV1 := Lib.hid hv1
          have HS3 := Lib.hid hs3
          clear hs3 hs2 hR2 kk2 hv1 HU HV
          go_wp2_with fail
          refine HV1.out.mono ?_; rintro e w3 ⟨rfl, hR3, kk3⟩
          have hs4 := HS3.out.read hR3 kk3
          have HS4 := Lib.hid hs4
          clear hs4 kk3 hR3 HV1 HS3 b0 b1 b2 b3 b4 z1 cr2 a0 a1 a2 a3 a4 cr HST
          go_wp2_with fail
          go_loopw [9, 44] (fun v9 i wr => ∃ (j : Nat) (v : Value), j ≤ m ∧ i = .int .i64 j ∧ RecSt w wr b w.heap.size (w.heap.size + 1) xb (kd : Int) IR.1 TR.1 ZR.1 v (runsR j NR.2.1 NR.2.2).1 (runsR j NR.2.1 NR.2.2).2.1 (runsR j NR.2.1 NR.2.2).2.2) (fun _ i _ => m - (intOf i).toNat)
          case atStart => exact ⟨0, _, by omega, rfl, HS4.out⟩
          case round =>
            obtain ⟨j, v, hj, rfl, hst⟩ := hrel
            have hsh := own_shape hst.row
            rw [runsR_len] at hsh
            obtain ⟨pv, cv, rfl⟩ := hsh
            by_cases hlt : j < m
            · have hnx : runsR (j + 1) NR.2.1 NR.2.2 = ((runsR j NR.2.1 NR.2.2).1 ++ [(((numR 2 (runsR j NR.2.1 NR.2.2).2.1 (runsR j NR.2.1 NR.2.2).2.2).1 : Int), ((numR 2 (numR 2 (runsR j NR.2.1 NR.2.2).2.1 (runsR j NR.2.1 NR.2.2).2.2).2.1 (numR 2 (runsR j NR.2.1 NR.2.2).2.1 (runsR j NR.2.1 NR.2.2).2.2).2.2).1 : Int))],
                (numR 2 (numR 2 (runsR j NR.2.1 NR.2.2).2.1 (runsR j NR.2.1 NR.2.2).2.2).2.1 (numR 2 (runsR j NR.2.1 NR.2.2).2.1 (runsR j NR.2.1 NR.2.2).2.2).2.2).2) := rfl
              have hlen := runsR_len j NR.2.1 NR.2.2
              generalize runsR j NR.2.1 NR.2.2 = RR at *
              have hu := rdU16 b RR.2.1 RR.2.2 wr hst.rd
              have bu : ((numR 2 RR.2.1 RR.2.2).1 : Int) < 65536 := by have := numR_lt 2 RR.2.1 RR.2.2; omega
              generalize numR 2 RR.2.1 RR.2.2 = U1 at *
              have hv := fun W (h : RdAt W b U1.2.1 U1.2.2) => rdU16 b U1.2.1 U1.2.2 W h
              have bv : ((numR 2 U1.2.1 U1.2.2).1 : Int) < 65536 := by have := numR_lt 2 U1.2.1 U1.2.2; omega
              generalize numR 2 U1.2.1 U1.2.2 = U2 at *
              have cr := hst.ptr
              obtain ⟨i0, hi0, hz0, hz1, hz2⟩ := infoRun
              have HNX := Lib.hid hnx
              have HLEN := Lib.hid hlen
              have HU := Lib.hid hu
              have HH := Lib.hid hv
              have HST := Lib.hid hst
              have HLT := Lib.hid hlt
              have i1 : (j : Int) < m := by omega
              have ewv : IntKind.i64.wrap (U2.1 : Int) = (U2.1 : Int) := IntWalk.i64_in _ (by omega)
              have i2 : (m : Int) ≤ 17 := by omega
              clear hnx hlen hu hv hst HS4
              go_wp2_with fail
              refine HU.out.mono ?_; rintro e w3 ⟨rfl, hR3, hk3⟩
              have hs3 := HST.out.read hR3 hk3
              have cr := hs3.ptr
              have cg : w3.cell? ⟨xb, 4, none⟩ = some (.slice pv j cv) := hs3.rcd.cell 4 (by simp)
              have HS3 := Lib.hid hs3
              clear hs3 hR3 hk3 HST
              have q3 : j + 1 ≤ maxLen := by unfold maxLen; omega
              have q4 : (j + 1) * 16 ≤ 140737488355328 := by omega
              go_wp2_with fail
              go_region_law (first
                | (refine step_append_lies _ (by rfl) (.tmp 51) (.tmp 58) 45 (by rfl) w.heap.size 48 i0 (.agg #[.int .i64 0, .int .i64 0]) 2 16 Tryz.underlying45 hi0 hz0 hz1 hz2 rfl (by decide) _ _ _ (by rfl) (World.ownsRow.alloc hown4 _) ⟨w4.heap.size, 0, none⟩ 1 1 [.int .i64 (U1.1 : Int), .int .i64 (U2.1 : Int)] (by rfl) rfl (World.news_of_block (heap_alloc_new w4 _)) (by intro u hu; simp at hu; rcases hu with rfl | rfl <;> rfl) (by decide) q3 q4 (by simp; omega) (w4.heap.size + 1) (by simp) ?_; intro g3' cap3 w5 o3 gr3 at3 lt3; have og5 := own_grown (World.ownsRow.alloc hown4 _) gr3 (HS4.out.rcd.alloc _) (by decide); have hc5 : w5.cell? ⟨xb, 4, none⟩ = some (.slice pv j cv) := Own.cell og5 4 (by simp); have hf5 : w5.frozen? ⟨xb, 4, none⟩ = false := og5.free 4)
                | (go_simp; go_at_call 115; ((with_reducible refine (HH.out _ ?_).mono ?_)); (first | exact HS3.out.rd | exact Own.drew HS3.out.rd); rintro e w4 ⟨rfl, hR4, hk4⟩; have hs4 : RecSt w w4 b w.heap.size (w.heap.size + 1) xb (kd : Int) IR.1 TR.1 ZR.1 (.slice pv j cv) RR.1 U2.2.1 U2.2.2 := (by first | exact (HS3.out.keep ((Kept.refl [] _).drew)).read hR4 hk4 | exact HS3.out.read hR4 hk4); have HS4 := Lib.hid hs4; have hown4 : w4.ownsRow w.heap.size 48 2 (.slice pv j cv) j (rcells RR.1) := (by have := hs4.row; unfold RunsNew at this; rw [HLEN.out] at this; exact this); have hw4 : w.heap.size ≤ w4.heap.size := hs4.kept.size; have cg4 : w4.cell? ⟨xb, 4, none⟩ = some (.slice pv j cv) := hs4.rcd.cell 4 (by simp); have cg4a : ∀ o, (w4.alloc o).cell? ⟨xb, 4, none⟩ = some (.slice pv j cv) := fun o => Own.cell (hs4.rcd.alloc o) 4 (by simp); clear hs4))
              all_goals go_wp2_with fail
              all_goals
                have hm6 := RecSt.more HS4.out gr3 (by rw [HLEN.out]; exact o3)
                have ej : runsR (j + 1) NR.2.1 NR.2.2 = (RR.1 ++ [((U1.1 : Int), (U2.1 : Int))], U2.2) := HNX.out
                have hlt2 := HLT.out
                refine ⟨⟨j + 1, _, by omega, rfl, by rw [ej]; exact hm6⟩, ?_⟩
                simp [intOf]; omega
            · obtain rfl : j = m := by omega
              have HST := Lib.hid hst
              clear hst HS4
              go_wp2_with fail
              go_meet
              exact ⟨_, HST.out⟩
      case rest =>
        obtain ⟨v, hst⟩ := hcut
        clear HST cr a0 a1 a2 a3 a4 EZ EN BD
        have hfin := FIN.out
        have hfit := FIT.out
        generalize runsR m NR.2.1 NR.2.2 = RR at *
        have hrow := hst.row
        have hsh := own_shape hrow
        rw [hrl] at hsh
        obtain ⟨pv, cv, rfl⟩ := hsh
        have hobb : w.heap.size + 1 ≠ b := by omega
        have hxbb := hst.hxb
        have hn3 : w.heap.size + 1 ≠ xb := hst.n3
        have hke : ∀ W, Kept [w.heap.size + 1] wc W → RecSt w W b w.heap.size (w.heap.size + 1) xb (kd : Int) IR.1 TR.1 ZR.1 (.slice pv m cv) RR.1 RR.2.1 RR.2.2 ∨ True := fun W _ => Or.inr trivial
        have hrd : ∀ W, Kept [w.heap.size + 1] wc W → RdAt W b RR.2.1 RR.2.2 := fun W kk => kk.own hst.rd (by simp; omega)
        have hrn : ∀ W, Kept [w.heap.size + 1] wc W → RunsNew w W (.slice pv m cv) RR.1 := fun W kk => ownsRow_keptO hrow kk hst.out (by decide)
        have hS : ∀ W, Kept [w.heap.size + 1] wc W → (W.cell? ⟨w.heap.size, 0, none⟩ = some (.pointer (some ⟨b, 0, none⟩)) ∧ W.cell? ⟨xb, 0, none⟩ = some (.int .i64 (kd : Int)) ∧ W.cell? ⟨xb, 1, none⟩ = some (.int .u32 (IR.1 : Int)) ∧ W.cell? ⟨xb, 2, none⟩ = some (.string (bs TR.1)) ∧ W.cell? ⟨xb, 3, none⟩ = some (.int .i64 (ZR.1 : Int)) ∧ W.cell? ⟨xb, 4, none⟩ = some (.slice pv m cv)) := fun W kk => by
          have q := (kk.own hst.rcd (by simp; omega)).c5
          exact ⟨(kk.own hst.box (by simp)).cell 0 (by simp), q⟩
        have hE : ∀ W, Kept [w.heap.size + 1] wc W → Calls Tryz.prog 90 #[.pointer (some ⟨b, 0, none⟩)] W fun e w' => e = .returned (.int .i64 RR.2.2) ∧ W = w' := fun W kk => rdErr b _ _ W (hrd W kk)
        have HE := Lib.hid hE
        have HRD := Lib.hid hrd
        have HRN := Lib.hid hrn
        obtain ⟨r, hr⟩ : ∃ r : JRec, r = ⟨(kd : Int), (IR.1 : Int), TR.1, (ZR.1 : Int), RR.1⟩ := ⟨_, rfl⟩
        rw [← hr] at hfin hfit
        have hlen17 : RR.1.length ≤ 17 := by rw [hrl]; omega
        have hkk : Kept [b] w wc := hst.kept
        have hC : ∀ W, Kept [w.heap.size + 1] wc W → Calls Tryz.prog 61 #[.agg #[.int .i64 (kd : Int), .int .u32 (IR.1 : Int), .string (bs TR.1), .int .i64 (ZR.1 : Int), .slice pv m cv]] W fun e w' => e = .returned (.int .i64 (if mayR r then 0 else 1)) ∧ Kept [w.heap.size + 1] wc w' ∧ w'.cell? ⟨w.heap.size, 0, none⟩ = some (.pointer (some ⟨b, 0, none⟩)) ∧ w'.cell? ⟨xb, 0, none⟩ = some (.int .i64 (kd : Int)) ∧ w'.cell? ⟨xb, 1, none⟩ = some (.int .u32 (IR.1 : Int)) ∧ w'.cell? ⟨xb, 2, none⟩ = some (.string (bs TR.1)) ∧ w'.cell? ⟨xb, 3, none⟩ = some (.int .i64 (ZR.1 : Int)) ∧ w'.cell? ⟨xb, 4, none⟩ = some (.slice pv m cv) ∧ (∀ cs : Array Value, Own W (w.heap.size + 1) cs 55 → Own w' (w.heap.size + 1) cs 55) := fun W kk => by
          have hc := jcheck r (.slice pv m cv) w.heap.size W.heap.size W (by rw [hr]; exact RunsIn.of_own (hrn W kk)) (by rw [hr]; show RR.1.length ≤ _; omega) hfit
          rw [hr] at hc
          rw [hr]
          refine hc.mono fun e w' hh => ?_
          have k2 := kk.trans (hh.2.mono (by simp))
          obtain ⟨s0, s1⟩ := hS w' k2
          exact ⟨hh.1, k2, s0, s1.1, s1.2.1, s1.2.2.1, s1.2.2.2.1, s1.2.2.2.2, fun cs o => hh.2.own o (by simp)⟩
        have HS := Lib.hid hS
        obtain ⟨s0, s1, s2, s3, s4, s5⟩ := hS wc (Kept.refl _ _)
        clear hS
        have z0 := hst.out.z5
        obtain ⟨o0, o1, o2, o3, o4⟩ := hst.out.c5
        have hend : ∀ W ok, Kept [w.heap.size + 1] wc W → ((RR.2.2 = 0 ∧ mayR r = true) ↔ ok = true) → RecordSays b l w (.returned (.tuple #[.agg #[.int .i64 (kd : Int), .int .u32 (IR.1 : Int), .string (bs TR.1), .int .i64 (ZR.1 : Int), .slice pv m cv], .bool ok])) W := fun W ok kk hok => by
          refine ⟨r, .slice pv m cv, by rw [hr]; exact hrn W kk, hfit, hkk.call kk (by simp), ?_⟩
          cases ok
          · exact Or.inr ⟨by rw [hfin, if_neg (fun hh => by have := hok.1 hh; cases this)], by rw [hr]; rfl⟩
          · have h2 := hok.2 rfl
            exact Or.inl ⟨RR.2.1, by rw [hfin, if_pos h2], by have := hrd W kk; rw [h2.1] at this; exact this, by rw [hr]; rfl⟩
        have HEND := Lib.hid hend
        clear hE hrd hrn hke hend hfin hfit FIN FIT
        go_upto_region 15 with fail
        by_cases hx : RR.2.2 = 0
        · have hdx : (RR.2.2 == 0) = true := by rw [hx]; rfl
          cases hM : mayR r
          · rw [hM] at hC
            simp only [Bool.false_eq_true, if_false] at hC
            have HC := Lib.hid hC
            have hok := fun W kk => HEND.out W false kk (by rw [hM]; simp)
            have HOK := Lib.hid hok
            clear hC hok HEND
            go_region_held3 (fun W => W.cell? ⟨w.heap.size, 0, none⟩ = some (.pointer (some ⟨b, 0, none⟩)) ∧ W.cell? ⟨xb, 0, none⟩ = some (.int .i64 (kd : Int)) ∧ W.cell? ⟨xb, 1, none⟩ = some (.int .u32 (IR.1 : Int)) ∧ W.cell? ⟨xb, 2, none⟩ = some (.string (bs TR.1)) ∧ W.cell? ⟨xb, 3, none⟩ = some (.int .i64 (ZR.1 : Int)) ∧ W.cell? ⟨xb, 4, none⟩ = some (.slice pv m cv)) (first | go_keep | exact HS.out _ (by repeat' first | exact Kept.refl _ _ | exact kk5 | refine Kept.drew ?_ | refine Kept.drewN ?_ _ | refine Kept.setCell ?_ (Or.inl (by simp)) _)) (first | (go_at_call 90; ((with_reducible refine (HE.out _ ?_).mono ?_)); (repeat' first | exact Kept.refl _ _ | exact kk5 | refine Kept.drew ?_ | refine Kept.drewN ?_ _ | refine Kept.setCell ?_ (Or.inl (by simp)) _); rintro e w' ⟨rfl, rfl⟩) | (go_at_call 61; ((with_reducible refine (HC.out _ ?_).mono ?_)); (repeat' first | exact Kept.refl _ _ | exact kk5 | refine Kept.drew ?_ | refine Kept.drewN ?_ _ | refine Kept.setCell ?_ (Or.inl (by simp)) _); rintro e w5 ⟨rfl, kk5, q0, q1, q2, q3, q4, q5, ho5⟩; (first | (have oo5 := ho5 _ (by (repeat' first | exact hst.out | refine Own.drew ?_)); obtain ⟨u0, u1, u2, u3, u4⟩ := oo5.c5; have uz := oo5.z5) | (have oo5 := ho5 _ (Own.set5 (by (repeat' first | exact hst.out | refine Own.drew ?_)) _ _ _ _ _)))))
            all_goals go_wp2_with fail
            all_goals
              refine bodyPost_ret (v := .tuple #[.agg #[.int .i64 (kd : Int), .int .u32 (IR.1 : Int), .string (bs TR.1), .int .i64 (ZR.1 : Int), .slice pv m cv], .bool false]) ?_ ?_ ?_
              · refine ret_row_tmp Tryz.results116 rfl rfl (t := 55) ?_ Tryz.underlying55 rfl (by kernel_rfl)
                with_reducible first | exact oo5 | exact Own.set5 oo5 _ _ _ _ _ | exact Own.set5 (Own.drew oo5) _ _ _ _ _
              · rfl
              · exact HOK.out _ (by repeat' first | exact Kept.refl _ _ | exact kk5 | refine Kept.drew ?_ | refine Kept.drewN ?_ _ | refine Kept.setCell ?_ (Or.inl (by simp)) _)
          · rw [hM] at hC
            simp only [if_true] at hC
            have HC := Lib.hid hC
            have hok := fun W kk => HEND.out W true kk (by rw [hM]; simp [hx])
            have HOK := Lib.hid hok
            clear hC hok HEND
            go_region_held3 (fun W => W.cell? ⟨w.heap.size, 0, none⟩ = some (.pointer (some ⟨b, 0, none⟩)) ∧ W.cell? ⟨xb, 0, none⟩ = some (.int .i64 (kd : Int)) ∧ W.cell? ⟨xb, 1, none⟩ = some (.int .u32 (IR.1 : Int)) ∧ W.cell? ⟨xb, 2, none⟩ = some (.string (bs TR.1)) ∧ W.cell? ⟨xb, 3, none⟩ = some (.int .i64 (ZR.1 : Int)) ∧ W.cell? ⟨xb, 4, none⟩ = some (.slice pv m cv)) (first | go_keep | exact HS.out _ (by repeat' first | exact Kept.refl _ _ | exact kk5 | refine Kept.drew ?_ | refine Kept.drewN ?_ _ | refine Kept.setCell ?_ (Or.inl (by simp)) _)) (first | (go_at_call 90; ((with_reducible refine (HE.out _ ?_).mono ?_)); (repeat' first | exact Kept.refl _ _ | exact kk5 | refine Kept.drew ?_ | refine Kept.drewN ?_ _ | refine Kept.setCell ?_ (Or.inl (by simp)) _); rintro e w' ⟨rfl, rfl⟩) | (go_at_call 61; ((with_reducible refine (HC.out _ ?_).mono ?_)); (repeat' first | exact Kept.refl _ _ | exact kk5 | refine Kept.drew ?_ | refine Kept.drewN ?_ _ | refine Kept.setCell ?_ (Or.inl (by simp)) _); rintro e w5 ⟨rfl, kk5, q0, q1, q2, q3, q4, q5, ho5⟩; (first | (have oo5 := ho5 _ (by (repeat' first | exact hst.out | refine Own.drew ?_)); obtain ⟨u0, u1, u2, u3, u4⟩ := oo5.c5; have uz := oo5.z5) | (have oo5 := ho5 _ (Own.set5 (by (repeat' first | exact hst.out | refine Own.drew ?_)) _ _ _ _ _)))))
            all_goals go_wp2_with fail
            all_goals
              refine bodyPost_ret (v := .tuple #[.agg #[.int .i64 (kd : Int), .int .u32 (IR.1 : Int), .string (bs TR.1), .int .i64 (ZR.1 : Int), .slice pv m cv], .bool true]) ?_ ?_ ?_
              · refine ret_row_tmp Tryz.results116 rfl rfl (t := 55) ?_ Tryz.underlying55 rfl (by kernel_rfl)
                with_reducible first | exact oo5 | exact Own.set5 oo5 _ _ _ _ _ | exact Own.set5 (Own.drew oo5) _ _ _ _ _
              · rfl
              · exact HOK.out _ (by repeat' first | exact Kept.refl _ _ | exact kk5 | refine Kept.drew ?_ | refine Kept.drewN ?_ _ | refine Kept.setCell ?_ (Or.inl (by simp)) _)
        · have hdx : (RR.2.2 == 0) = false := by simpa using hx
          have hdx2 : (RR.2.2 != 0) = true := by simpa using hx
          have hok := fun W kk => HEND.out W false kk (by simp [hx])
          have HOK := Lib.hid hok
          clear hC hok HEND
          refine wp_region_held_drew (S := (fun W => W.cell? ⟨w.heap.size, 0, none⟩ = some (.pointer (some ⟨b, 0, none⟩)) ∧ W.cell? ⟨xb, 0, none⟩ = some (.int .i64 (kd : Int)) ∧ W.cell? ⟨xb, 1, none⟩ = some (.int .u32 (IR.1 : Int)) ∧ W.cell? ⟨xb, 2, none⟩ = some (.string (bs TR.1)) ∧ W.cell? ⟨xb, 3, none⟩ = some (.int .i64 (ZR.1 : Int)) ∧ W.cell? ⟨xb, 4, none⟩ = some (.slice pv m cv))) (by kernel_rfl) (by (first | go_keep | exact HS.out _ (by repeat' first | exact Kept.refl _ _ | refine Kept.drew ?_ | refine Kept.drewN ?_ _ | refine Kept.setCell ?_ (Or.inl (by simp)) _))) (fun hHeld => ?_)
          refine take_at (i := 0) (d := some 62) (v := ?_) rfl rfl (by kernel_rfl) (by kernel_rfl) (by kernel_rfl) (fun _ _ _ h => h) (Or.inl ⟨by rfl, ?_⟩) (by assumption) ?_
          rotate_left
          · (intro w hSw; (try dsimp only at hSw); go_simp; try with_reducible rfl)
          try simp only [Act.put, List.setIfInBounds_toArray, List.set_cons_zero, List.set_cons_succ]
          refine take_at (i := 1) (d := some 63) (v := ?_) rfl rfl (by kernel_rfl) (by kernel_rfl) (by kernel_rfl) (fun _ _ _ h => h) (Or.inl ⟨by rfl, ?_⟩) (by assumption) ?_
          rotate_left
          · (intro w hSw; (try dsimp only at hSw); go_simp; try with_reducible rfl)
          try simp only [Act.put, List.setIfInBounds_toArray, List.set_cons_zero, List.set_cons_succ]
          refine take_at (i := 2) (d := some 64) (v := ?_) rfl rfl (by kernel_rfl) (by kernel_rfl) (by kernel_rfl) (fun _ _ _ h => h) (Or.inl ⟨by rfl, ?_⟩) (by assumption) ?_
          rotate_left
          · (intro w hSw; (try dsimp only at hSw); go_simp; try with_reducible rfl)
          try simp only [Act.put, List.setIfInBounds_toArray, List.set_cons_zero, List.set_cons_succ]
          refine wpAnyH_ready (rs := [3]) (by kernel_rfl) (by simp) ?_
          refine (AllReadyH.cons rfl (fun K hK => ?_) AllReadyH.nil)
          go_simp
          ((with_reducible refine (HE.out _ (by repeat' first | exact Kept.refl _ _ | refine Kept.drew ?_ | refine Kept.drewN ?_ _ | refine Kept.setCell ?_ (Or.inl (by simp)) _)).mono ?_)); rintro e w' ⟨rfl, rfl⟩
          go_wp2_with fail
          refine hK.out _ _ ?_ (fun hHeld => ?_)
          · (first | go_keep | exact HS.out _ (by repeat' first | exact Kept.refl _ _ | refine Kept.drew ?_ | refine Kept.drewN ?_ _ | refine Kept.setCell ?_ (Or.inl (by simp)) _))
          clear hK K
          try simp only [Act.put, List.setIfInBounds_toArray, List.set_cons_zero, List.set_cons_succ]
          refine take_at (i := 4) (d := some 66) (v := ?_) rfl rfl (by kernel_rfl) (by kernel_rfl) (by kernel_rfl) (fun _ _ _ h => h) (Or.inl ⟨by rfl, ?_⟩) (by assumption) ?_
          rotate_left
          · (intro w hSw; (try dsimp only at hSw); go_simp; try with_reducible rfl)
          try simp only [Act.put, List.setIfInBounds_toArray, List.set_cons_zero, List.set_cons_succ]
          refine take_at (i := 5) (d := some 67) (v := ?_) rfl rfl (by kernel_rfl) (by kernel_rfl) (by kernel_rfl) (fun _ _ _ h => h) (Or.inl ⟨by rfl, ?_⟩) (by assumption) ?_
          rotate_left
          · (intro w hSw; (try dsimp only at hSw); go_simp; try with_reducible rfl)
          try simp only [Act.put, List.setIfInBounds_toArray, List.set_cons_zero, List.set_cons_succ]
          refine take_at (i := 6) (d := some 68) (v := undef) rfl rfl (by kernel_rfl) (by kernel_rfl) (by kernel_rfl) (fun _ _ _ h => h) (Or.inr ⟨by rfl, rfl⟩) (by assumption) ?_
          try simp only [Act.put, List.setIfInBounds_toArray, List.set_cons_zero, List.set_cons_succ]
          refine take_at (i := 7) (d := some 69) (v := undef) rfl rfl (by kernel_rfl) (by kernel_rfl) (by kernel_rfl) (fun _ _ _ h => h) (Or.inr ⟨by rfl, rfl⟩) (by assumption) ?_
          try simp only [Act.put, List.setIfInBounds_toArray, List.set_cons_zero, List.set_cons_succ]
          refine take_at (i := 8) (d := some 70) (v := undef) rfl rfl (by kernel_rfl) (by kernel_rfl) (by kernel_rfl) (fun _ _ _ h => h) (Or.inr ⟨by rfl, rfl⟩) (by assumption) ?_
          try simp only [Act.put, List.setIfInBounds_toArray, List.set_cons_zero, List.set_cons_succ]
          refine take_at (i := 9) (d := some 71) (v := ?_) rfl rfl (by kernel_rfl) (by kernel_rfl) (by kernel_rfl) (fun _ _ _ h => h) (Or.inl ⟨by rfl, ?_⟩) (by assumption) ?_
          rotate_left
          · (intro w hSw; (try dsimp only at hSw); go_simp; try with_reducible rfl)
          try simp only [Act.put, List.setIfInBounds_toArray, List.set_cons_zero, List.set_cons_succ]
          refine wpAnyH_ready (rs := [10]) (by kernel_rfl) (by simp) ?_
          refine (AllReadyH.cons rfl (fun K hK => ?_) AllReadyH.nil)
          go_simp
          refine hK.out _ _ ?_ (fun hHeld => ?_)
          · (first | go_keep | exact HS.out _ (by repeat' first | exact Kept.refl _ _ | refine Kept.drew ?_ | refine Kept.drewN ?_ _ | refine Kept.setCell ?_ (Or.inl (by simp)) _))
          clear hK K
          try simp only [Act.put, List.setIfInBounds_toArray, List.set_cons_zero, List.set_cons_succ]
          refine take_at (i := 11) (d := some 3) (v := ?_) rfl rfl (by kernel_rfl) (by kernel_rfl) (by kernel_rfl) (fun _ _ _ h => h) (Or.inl ⟨by rfl, ?_⟩) (by assumption) ?_
          rotate_left
          · (intro w hSw; (try dsimp only at hSw); go_simp; try with_reducible rfl)
          try simp only [Act.put, List.setIfInBounds_toArray, List.set_cons_zero, List.set_cons_succ]
          refine wpAnyH_done (by kernel_rfl) ?_ _
          go_wp2_with fail
          refine bodyPost_ret (v := .tuple #[.agg #[.int .i64 (kd : Int), .int .u32 (IR.1 : Int), .string (bs TR.1), .int .i64 (ZR.1 : Int), .slice pv m cv], .bool false]) ?_ ?_ ?_
          · refine ret_row_tmp Tryz.results116 rfl rfl (t := 55) ?_ Tryz.underlying55 rfl (by kernel_rfl)
            with_reducible first | exact Own.set5 hst.out _ _ _ _ _ | exact Own.drew (Own.set5 hst.out _ _ _ _ _)
          · rfl
          · exact HOK.out _ (by repeat' first | exact Kept.refl _ _ | refine Kept.drew ?_ | refine Kept.drewN ?_ _ | refine Kept.setCell ?_ (Or.inl (by simp)) _)
end Go.Proofs.YtakdnchmehmdhaaGreat
