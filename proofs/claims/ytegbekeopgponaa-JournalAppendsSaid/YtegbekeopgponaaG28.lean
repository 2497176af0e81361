/- Layer 13 (journal): all transactions of bytes, as the program reads them. -/
import Derived.Test.YtegbekeopgponaaG24
import Derived.WalkMore
import Derived.ScopeJumps
import Derived.Outline
namespace Go.Proofs.Ytegbekeopgponaa
open Go.RowKit
set_option linter.unusedVariables false
set_option linter.unusedSimpArgs false

/-- a scope in which the run jumps back to one label: the first way may lean on what holds behind the label. -/
theorem wp_scope_jumps3 {P : Program} {a : Act} {w : World} {Q : Exit → Act → World → Prop} {c rest : Code} (l : Nat) (J : Act → World → Prop) (μ : Act → World → Nat) (hf : findLabel c l = some (Code.skip.seq rest))
    (pass : ∀ a w, J a w → rest.wp P (Exit.jump l (fun a' w' => J a' w' ∧ μ a' w' < μ a w) Q) a w)
    (first : (∀ a w, J a w → rest.wp P (Exit.jump l J Q) a w) → c.wp P (Exit.jump l J Q) a w) : (Code.scope c).wp P Q a w :=
  wp_scope_jumps l J μ hf (first (fun a w h => wp_mono (pass a w h) (fun e a' w' he => by
    cases e with
    | goto l' => exact ⟨he.1, he.2.1⟩
    | _ => exact he))) (fun a w h => wp_seq (wp_skip (pass a w h)))
theorem infoRecs : ∃ i, Try.prog.info? 32 = some i ∧ i.zero = some (.slice none 0 0) ∧ i.size = 1 ∧ i.bytes = 24 := by
  have hi : (Try.prog.info? 32).map (fun i => (i.zero, i.size, i.bytes)) = some (some (.slice none 0 0), 1, 24) := by kernel_rfl
  obtain ⟨i0, hi0, hz0, hz1, hz2⟩ := info_parts hi
  exact ⟨i0, hi0, hz0, hz1, hz2⟩
/-- a row of lists of records of the run's own, made since w0. -/
def TxsNew (w0 w : World) (v : Value) (l : List (List JRec)) : Prop :=
  ∃ vs : List (List JRec × Value), vs.map (·.1) = l ∧ w.ownsRow w0.heap.size 32 1 v l.length (vs.map (·.2)) ∧ ∀ x ∈ vs, RecsNew w0 w x.2 x.1
/-- blocks of other types, or blocks that were there. -/
def OffTxs (w0 w : World) (S : List Nat) : Prop := ∀ x ∈ S, x < w0.heap.size ∨ ∃ cs t, Own w x cs t ∧ t ≠ 102 ∧ t ≠ 50 ∧ t ≠ 32
theorem OffTxs.nil (w0 w : World) : OffTxs w0 w [] := fun x hx => by cases hx
theorem OffTxs.one {w0 w : World} {b : Nat} {cs : Array Value} {t : TypeId} (h : Own w b cs t) (h1 : t ≠ 102) (h2 : t ≠ 50) (h3 : t ≠ 32) : OffTxs w0 w [b] := fun x hx => by
  have hx : x = b := by simpa using hx
  subst hx; exact Or.inr ⟨_, _, h, h1, h2, h3⟩
theorem OffTxs.recs {w0 w : World} {S : List Nat} (h : OffTxs w0 w S) : OffRecs w0 w S := fun x hx => (h x hx).imp id (fun ⟨cs, t, o, h1, h2, _⟩ => ⟨cs, t, o, h1, h2⟩)
section
variable {S : List Nat} {w0 w w' : World} {v : Value} {l : List (List JRec)}
theorem TxsNew.kept (h : TxsNew w0 w v l) (k : Kept S w w') (hS : OffTxs w0 w S) : TxsNew w0 w' v l := by
  obtain ⟨vs, h1, h2, h3⟩ := h
  refine ⟨vs, h1, ownsRow_keptT h2 k (fun x hx hb cs hc => ?_), fun x hx => (h3 x hx).kept k hS.recs⟩
  rcases hS x hx with h1 | ⟨cs', t, o, _, _, ht⟩
  · omega
  · exact ht (own_ty o hc)
theorem TxsNew.kept0 (h : TxsNew w0 w v l) (k : Kept [] w w') : TxsNew w0 w' v l := h.kept k (OffTxs.nil _ _)
theorem TxsNew.base {w1 : World} (h : TxsNew w1 w v l) (hb : w0.heap.size ≤ w1.heap.size) : TxsNew w0 w v l := by
  obtain ⟨vs, h1, h2, h3⟩ := h
  exact ⟨vs, h1, ownsRow_base h2 hb, fun x hx => (h3 x hx).base hb⟩
theorem TxsNew.nil (w0 w : World) : TxsNew w0 w (.slice none 0 0) [] := ⟨[], rfl, World.ownsRow_nil _ _ _ _, fun x hx => by cases hx⟩
theorem TxsNew.shape (h : TxsNew w0 w v l) : ∃ p c, v = .slice p l.length c := by
  obtain ⟨vs, h1, h2, h3⟩ := h; exact own_shape h2
/-- records behind a row of another type that grew. -/
theorem RecsNew.grown {w5 : World} {base size n : Nat} {e : TypeId} {u v10 : Value} {xs : List Value} {rs : List JRec} (h : RecsNew w0 w u rs) (hr : w.ownsRow base e size v10 n xs) (hg : w.grownBy w5 v10.ownBlock) (h1 : e ≠ 102) (h2 : e ≠ 50) : RecsNew w0 w5 u rs := by
  obtain ⟨vs, e1, e2, e3⟩ := h
  exact ⟨vs, e1, ownsRow_same e2 (fun g cs hb hc => hg.block g (lt_of_block hc) (fun e' => own_row_ne hr (show Own w g cs 50 from hc) h2 e'.symm)), fun x hx => ⟨ownsRow_same (e3 x hx).1 (fun g cs hb hc => hg.block g (lt_of_block hc) (fun e' => own_row_ne hr (show Own w g cs 102 from hc) h1 e'.symm)), (e3 x hx).2⟩⟩
/-- another list behind them. -/
theorem TxsNew.more {v' kv : Value} {o : List JRec} {w5 : World} {vs : List (List JRec × Value)} (h1 : vs.map (·.1) = l) (h3 : ∀ x ∈ vs, RecsNew w0 w x.2 x.1) (h2 : w.ownsRow w0.heap.size 32 1 v l.length (vs.map (·.2)))
    (hr : RecsNew w0 w kv o) {ob : Obj} (hg : (w.alloc ob).grownBy w5 v.ownBlock) (hn : w5.ownsRow w0.heap.size 32 1 v' (l.length + 1) (vs.map (·.2) ++ [kv])) : TxsNew w0 w5 v' (l ++ [o]) := by
  have hrow := World.ownsRow.alloc h2 ob
  have hk : ∀ (u : Value) (rs : List JRec), RecsNew w0 w u rs → RecsNew w0 w5 u rs := fun u rs hu =>
    (hu.kept0 ((Kept.refl [] w).alloc ob)).grown hrow hg (by decide) (by decide)
  refine ⟨vs ++ [(o, kv)], by simp [h1], by rw [List.map_append, List.length_append, List.length_singleton]; exact hn, fun x hx => ?_⟩
  rcases List.mem_append.1 hx with hx | hx
  · exact hk _ _ (h3 x hx)
  · have hx : x = (o, kv) := by simpa using hx
    subst hx
    exact hk _ _ hr
end

theorem rframe (x0 x1 x2 x3 x4 x5 x6 x7 x8 x9 x10 x11 x12 x13 x14 x15 x16 x17 x18 x19 x20 x21 x22 x23 x24 x25 x26 x27 x28 x29 x30 x31 x32 x33 x34 x35 x36 x37 x38 x39 x40 x41 x42 x43 x44 x45 x46 x47 x48 x49 x50 x51 x52 : Value) : ∃ u : Nat → Value, ({ tmps := #[x0, x1, x2, x3, x4, x5, x6, x7, x8, x9, x10, x11, x12, x13, x14, x15, x16, x17, x18, x19, x20, x21, x22, x23, x24, x25, x26, x27, x28, x29, x30, x31, x32, x33, x34, x35, x36, x37, x38, x39, x40, x41, x42, x43, x44, x45, x46, x47, x48, x49, x50, x51, x52], defers := [] } : Act) = { tmps := #[x0, (u 1), x2, x3, x4, x5, (u 6), (u 7), (u 8), (u 9), (u 10), (u 11), (u 12), (u 13), (u 14), (u 15), (u 16), (u 17), (u 18), (u 19), (u 20), (u 21), (u 22), (u 23), (u 24), (u 25), (u 26), (u 27), (u 28), (u 29), (u 30), (u 31), (u 32), (u 33), (u 34), (u 35), (u 36), (u 37), (u 38), (u 39), (u 40), (u 41), (u 42), (u 43), (u 44), (u 45), (u 46), (u 47), (u 48), (u 49), (u 50), (u 51), (u 52)], defers := [] } :=
  ⟨fun n => [x0, x1, x2, x3, x4, x5, x6, x7, x8, x9, x10, x11, x12, x13, x14, x15, x16, x17, x18, x19, x20, x21, x22, x23, x24, x25, x26, x27, x28, x29, x30, x31, x32, x33, x34, x35, x36, x37, x38, x39, x40, x41, x42, x43, x44, x45, x46, x47, x48, x49, x50, x51, x52].getD n undef, rfl⟩
structure ReadSt (w w' : World) (rb : Nat) (s0 : List UInt8) (v4 : Value) (out : List (List JRec)) (s : List UInt8) : Prop where
  at_ : ReadAt s0 out s
  rd : RdAt w' w.heap.size s 0
  box : Own w' rb #[.pointer (some ⟨w.heap.size, 0, none⟩)] 75
  row : TxsNew w w' v4 out
  kept : Kept [] w w'
  hrb : w.heap.size < rb
  few : out.length * 8 + s.length ≤ s0.length
def ReadJ (w : World) (rb : Nat) (s0 : List UInt8) (a' : Act) (w' : World) : Prop :=
  ∃ (v4 : Value) (out : List (List JRec)) (s : List UInt8), (∃ u : Nat → Value, a' = { tmps := #[.string (bs s0), (u 1), .slice none 0 0, .int .i64 0, v4, .pointer (some ⟨rb, 0, none⟩), (u 6), (u 7), (u 8), (u 9), (u 10), (u 11), (u 12), (u 13), (u 14), (u 15), (u 16), (u 17), (u 18), (u 19), (u 20), (u 21), (u 22), (u 23), (u 24), (u 25), (u 26), (u 27), (u 28), (u 29), (u 30), (u 31), (u 32), (u 33), (u 34), (u 35), (u 36), (u 37), (u 38), (u 39), (u 40), (u 41), (u 42), (u 43), (u 44), (u 45), (u 46), (u 47), (u 48), (u 49), (u 50), (u 51), (u 52)], defers := [] }) ∧ ReadSt w w' rb s0 v4 out s
def ReadM (w : World) (_ : Act) (w' : World) : Nat := match w'.cell? ⟨w.heap.size, 0, none⟩ with | some (.string s) => s.size | _ => 0
theorem readM_at {w w' : World} {a : Act} {s : List UInt8} {x : Int} (h : RdAt w' w.heap.size s x) : ReadM w a w' = s.length := by
  unfold ReadM
  rw [show w'.cell? ⟨w.heap.size, 0, none⟩ = some (.string (bs s)) from Own.cell h 0 (by simp)]
  exact bs_size s
/-- what a call of Read tells. -/
def ReadSays (s : List UInt8) (w : World) (e : Ending) (w' : World) : Prop :=
  ((∃ ls v, readO s = some ls ∧ TxsNew w w' v ls ∧ e = .returned (.tuple #[v, .int .i64 0])) ∨ (readO s = none ∧ e = .returned (.tuple #[.slice none 0 0, .int .i64 110]))) ∧ Kept [] w w'

section
variable {w wr wx : World} {rb : Nat} {s0 : List UInt8} {v4 : Value} {out : List (List JRec)} {s s' : List UInt8} {x : Int}
/-- behind a call of the reader, or one that keeps all blocks. -/
theorem ReadSt.new_kept (h : ReadSt w wr rb s0 v4 out s) {S : List Nat} (kk : Kept S wr wx) (hS : ∀ y ∈ S, y = w.heap.size) : TxsNew w wx v4 out ∧ Own wx rb #[.pointer (some ⟨w.heap.size, 0, none⟩)] 75 ∧ Kept [] w wx :=
  ⟨h.row.kept kk (fun y hy => by rw [hS y hy]; exact Or.inr ⟨_, _, h.rd, by decide, by decide, by decide⟩), kk.own h.box (fun hb => by have := hS _ hb; have := h.hrb; omega), h.kept.call kk (fun y hy => Or.inr (by have := hS y hy; omega))⟩
end
set_option maxRecDepth 100000 in
set_option maxHeartbeats 4000000 in
theorem jread (s0 : List UInt8) (w : World) (hs : s0.length ≤ 1000000) :
    Calls Try.prog 10 #[.string (bs s0)] w (ReadSays s0 w) := by
  have hrd := fun W => packRead (bs s0) W
  rw [bs_data] at hrd
  have HRD := Lib.hid hrd
  have HS := Lib.hid hs
  clear hrd hs
  go_enter Try.func10, Try.ntmps10
  go_wp2_with fail
  refine wp_scope_jumps3 0 (fun a' w' => ∃ rb, ReadJ w rb s0 a' w') (ReadM w) rfl ?_ ?_
  · rintro a' w' ⟨rb, v4, out, s, ⟨u, rfl⟩, hst⟩
    have hsh := hst.row.shape
    obtain ⟨p4, c4, rfl⟩ := hsh
    have cr : w'.cell? ⟨rb, 0, none⟩ = some (.pointer (some ⟨w.heap.size, 0, none⟩)) := hst.box.cell 0 (by simp)
    have hl := rdLeft w.heap.size s 0 w' hst.rd
    by_cases hnil : s = []
    · have hro := hst.at_.end_ hnil
      subst hnil
      have HRO := Lib.hid hro
      have HL := Lib.hid hl
      have HROW := Lib.hid hst.row
      have hkk := hst.kept
      clear hro hl hst HRD
      go_wp2_with fail
      refine HL.out.mono ?_; rintro e w1 ⟨rfl, rfl⟩
      go_wp2_with fail
      simp only [Exit.jump]
      go_ret2
      exact ⟨Or.inl ⟨_, _, HRO.out, HROW.out, rfl⟩, hkk⟩
    · have hpos : 0 < s.length := List.length_pos_iff.2 hnil
      have hne : ((s.length : Int) == 0) = false := by rw [beq_eq_false_iff_ne]; omega
      have hu1 := fun W (hr : RdAt W w.heap.size s 0) (ho : Own W rb #[.pointer (some ⟨w.heap.size, 0, none⟩)] 75) => (rdU32 w.heap.size s 0 W hr).mono fun e w1 hh => (show e = .returned (.int .u32 (aR s).1) ∧ RdAt w1 w.heap.size (aR s).2.1 (aR s).2.2 ∧ Kept [w.heap.size] W w1 ∧ w1.cell? ⟨rb, 0, none⟩ = some (.pointer (some ⟨w.heap.size, 0, none⟩)) ∧ Own w1 rb #[.pointer (some ⟨w.heap.size, 0, none⟩)] 75 from ⟨hh.1, hh.2.1, hh.2.2, (hh.2.2.own ho (by have := hst.hrb; simp; omega)).cell 0 (by simp), hh.2.2.own ho (by have := hst.hrb; simp; omega)⟩)
      have hu2 := fun W (hr : RdAt W w.heap.size (aR s).2.1 (aR s).2.2) (ho : Own W rb #[.pointer (some ⟨w.heap.size, 0, none⟩)] 75) => (rdU32 w.heap.size (aR s).2.1 (aR s).2.2 W hr).mono fun e w1 hh => (show e = .returned (.int .u32 (cR s).1) ∧ RdAt w1 w.heap.size (cR s).2.1 (cR s).2.2 ∧ Kept [w.heap.size] W w1 ∧ w1.cell? ⟨rb, 0, none⟩ = some (.pointer (some ⟨w.heap.size, 0, none⟩)) ∧ Own w1 rb #[.pointer (some ⟨w.heap.size, 0, none⟩)] 75 from ⟨hh.1, hh.2.1, hh.2.2, (hh.2.2.own ho (by have := hst.hrb; simp; omega)).cell 0 (by simp), hh.2.2.own ho (by have := hst.hrb; simp; omega)⟩)
      have ba : ((aR s).1 : Int) < 4294967296 := by have : (aR s).1 < 4294967296 := numR_lt 4 s 0; omega
      have ewa : IntKind.i64.wrap ((aR s).1 : Int) = ((aR s).1 : Int) := IntWalk.i64_in _ (by omega)
      have htk := fun W (hr : RdAt W w.heap.size (cR s).2.1 (cR s).2.2) => (show Calls Try.prog 41 #[.pointer (some ⟨w.heap.size, 0, none⟩), .int .i64 (aR s).1] W fun r w1 => r = .returned (.string (bs (bR s).1)) ∧ RdAt w1 w.heap.size (bR s).2.1 (bR s).2.2 ∧ Kept [w.heap.size] W w1 from packTake w.heap.size (cR s).2.1 (cR s).2.2 (aR s).1 W hr)
      have hbl : (bR s).1.length ≤ s0.length := by
        by_cases hx : (bR s).2.2 = 0
        · have := (bR_less hx).2; have := hst.few; omega
        · rw [show (bR s).1 = [] from takeR_no hx]; simp
      have hrecs := fun W => jrecords (bR s).1 W
      have hcrc := fun W => csum (bs (bR s).1) W (by rw [bs_size]; have := HS.out; unfold maxLen; omega)
      rw [bs_data] at hcrc
      have hty := fun o => txO_yes (s := s) (o := o)
      have htb := fun h => txO_body (s := s) h
      have hte := fun h => txO_err (s := s) h
      have hts := fun h => txO_sum (s := s) h
      have hlt := fun h => (bR_less (s := s) h).2
      have HU1 := Lib.hid hu1
      have HU2 := Lib.hid hu2
      have HTK := Lib.hid htk
      have HRECS := Lib.hid hrecs
      have HCRC := Lib.hid hcrc
      have HTY := Lib.hid hty
      have HTB := Lib.hid htb
      have HTE := Lib.hid hte
      have HTS := Lib.hid hts
      have HLT := Lib.hid hlt
      have HL := Lib.hid hl
      have HST := Lib.hid hst
      have HNIL := Lib.hid hnil
      clear hu1 hu2 htk hrecs hcrc hty htb hte hts hlt hl hst hbl hnil HRD
      generalize aR s = A at *
      generalize cR s = C at *
      generalize bR s = B at *
      go_wp2_with fail
      refine HL.out.mono ?_; rintro e w1 ⟨rfl, rfl⟩
      clear HL
      go_wp2_with fail
      go_region_held3 (fun W => W.cell? ⟨rb, 0, none⟩ = some (.pointer (some ⟨w.heap.size, 0, none⟩))) (go_keep)
        (first
          | (go_at_call 40; ((with_reducible refine (HU1.out _ ?_ ?_).mono ?_)); (first | exact HST.out.rd | exact Own.drew HST.out.rd); (first | exact HST.out.box | exact Own.drew HST.out.box); rintro e w1 ⟨rfl, hR1, kk1, q1, ho1⟩)
          | (go_at_call 40; ((with_reducible refine (HU2.out _ ?_ ?_).mono ?_)); (first | exact hR1 | exact Own.drew hR1); (first | exact ho1 | exact Own.drew ho1); rintro e w2 ⟨rfl, hR2, kk2, q2, ho2⟩))
      all_goals
        have kkA : Kept [w.heap.size] w' w2 := Kept.trans (by first | exact kk1 | exact ((Kept.refl _ _).drew).trans kk1) kk2
        clear kk1 kk2 hR1 ho1 q1 HU1 HU2
        go_wp2_with fail
        refine (HTK.out _ hR2).mono ?_; rintro e w3 ⟨rfl, hR3, kk3⟩
        have kkB := kkA.trans kk3
        clear hR2 ho2 q2 HTK kkA kk3
        go_wp2_with fail
        refine (HRECS.out _).mono ?_; rintro e w4 ⟨hc, kk4⟩
        have kkC := kkB.trans (kk4.mono (T := [w.heap.size]) (by simp))
        obtain ⟨row4, box4, kept4⟩ := HST.out.new_kept kkC (by simp)
        have hR4 := kk4.own hR3 (by simp)
        have cr4 : w4.cell? ⟨rb, 0, none⟩ = some (.pointer (some ⟨w.heap.size, 0, none⟩)) := box4.cell 0 (by simp)
        clear HRECS kkC hR3 cr
        rcases hc with ⟨o, v, ho, hrow, rfl⟩ | ⟨ho, v, rfl⟩
        · have HE := Lib.hid (rdErr w.heap.size B.2.1 B.2.2 w4 hR4)
          by_cases hx : B.2.2 = 0
          · have hlt := HLT.out hx
            by_cases hsum : crc B.1 = C.1
            · have hstep := HST.out.at_.step HNIL.out (HTY.out o ho hx hsum)
              have hR5 : RdAt w4 w.heap.size B.2.1 0 := by have := hR4; rw [hx] at this; exact this
              rw [hx] at HE
              have hsum1 : ((crc B.1 : Int) != (C.1 : Int)) = false := by rw [hsum]; simp
              have hsum2 : ((crc B.1 : Int) == (C.1 : Int)) = true := by rw [hsum]; simp
              obtain ⟨pv, cv, rfl⟩ := hrow.shape
              obtain ⟨vs, e1, e2, e3⟩ := row4
              obtain ⟨i0, q0, q1, q2, q3⟩ := infoRecs
              have hfew := HST.out.few
              have hs0 := HS.out
              have r3 : out.length + 1 ≤ maxLen := by unfold maxLen; omega
              have r4 : (out.length + 1) * 24 ≤ 140737488355328 := by omega
              have hsz4 : w.heap.size ≤ w4.heap.size := kept4.size
              have hrn : RecsNew w w4 (.slice pv o.length cv) o := hrow.base (by have := HST.out.kept.size; have := kkB.size; omega)
              have HRN := Lib.hid hrn
              have HSTEP := Lib.hid hstep
              have HR5 := Lib.hid hR5
              have HE2 := Lib.hid e2
              have HE3 := Lib.hid e3
              have HE1 := Lib.hid e1
              have HLEN := Lib.hid hlt
              have HFEW := Lib.hid hfew
              have HCR := Lib.hid (HCRC.out w4)
              clear HTY HTB HTE HTS HLT hR4 hR5 hrow hrn hstep e1 e2 e3 hlt hsum HCRC hfew ho hx
              go_wp2_with fail
              refine HE.out.mono ?_; rintro e w5 ⟨rfl, rfl⟩
              go_wp2_with fail
              refine HCR.out.mono ?_; rintro e w5 ⟨rfl, rfl⟩
              go_wp2_with (at_builtin; go_must (refine wpList_append_own_at _ rfl (.tmp 49) (.tmp 51) 23 rfl w.heap.size 32 i0 (.slice none 0 0) 1 24 Try.underlying23 q0 q1 q2 q3 rfl (by decide) _ _ _ rfl (World.ownsRow.alloc HE2.out _) ⟨w4.heap.size, 0, none⟩ 1 1 [.slice pv o.length cv] rfl rfl ?_ ?_ r3 r4 ?_ ?_))
              · exact World.news_of_block (heap_alloc_new w4 _)
              · intro u hu; simp at hu; subst hu; rfl
              · simp; omega
              intro v6 w6 o6 gr6 _ _
              have hrow6 := TxsNew.more HE1.out HE3.out HE2.out HRN.out gr6 o6
              have hra := World.ownsRow.alloc HE2.out (.cells #[.slice pv o.length cv] 32)
              have hrd6 : RdAt w6 w.heap.size B.2.1 0 := own_grown hra gr6 (Own.alloc HR5.out _) (by decide)
              have hbox6 := own_grown hra gr6 (box4.alloc _) (by decide)
              have hk6 : Kept [] w w6 := (kept4.alloc _).grown gr6 (fun i hi => Or.inr (World.ownsRow.lt hra i hi).1)
              have hst6 : ReadSt w w6 rb s0 v6 (out ++ [o]) B.2.1 := ⟨HSTEP.out, hrd6, hbox6, hrow6, hk6, HST.out.hrb, by have := HFEW.out; have := HLEN.out; rw [List.length_append, List.length_singleton]; omega⟩
              have HST6 := Lib.hid hst6
              have HRD6 := Lib.hid hrd6
              obtain ⟨p6, c6, rfl⟩ := hrow6.shape
              clear gr6 o6 hra hrd6 hbox6 hk6 hst6 hrow6
              go_wp2_with fail
              go_step3
              refine ⟨rfl, ⟨rb, _, _, _, (rframe ..), HST6.out⟩, ?_⟩
              rw [readM_at HRD6.out, readM_at HST.out.rd]
              have := HLEN.out
              omega
            · have hno := HST.out.at_.no HNIL.out (HTS.out hsum)
              rw [hx] at HE
              have hsum0 : ¬ ((crc B.1 : Int) = (C.1 : Int)) := by omega
              have hsum1 : ((crc B.1 : Int) != (C.1 : Int)) = true := by simpa using hsum0
              have hsum2 : ((crc B.1 : Int) == (C.1 : Int)) = false := by simpa using hsum0
              have HNO := Lib.hid hno
              have HCR := Lib.hid (HCRC.out w4)
              obtain ⟨pv, cv, rfl⟩ := hrow.shape
              clear HTY HTB HTE HTS HLT hR4 hrow hlt hno HCRC hsum0 hsum ho hx
              go_wp2_with fail
              refine HE.out.mono ?_; rintro e w5 ⟨rfl, rfl⟩
              go_wp2_with fail
              refine HCR.out.mono ?_; rintro e w5 ⟨rfl, rfl⟩
              go_wp2_with fail
              simp only [Exit.jump]
              go_ret2
              exact ⟨Or.inr ⟨HNO.out, rfl⟩, kept4⟩
          · have hno := HST.out.at_.no HNIL.out (HTE.out hx)
            have hx1 : (B.2.2 != 0) = true := by simpa using hx
            have hx2 : (B.2.2 == 0) = false := by simpa using hx
            have HNO := Lib.hid hno
            obtain ⟨pv, cv, rfl⟩ := hrow.shape
            clear HTY HTB HTE HTS HLT hR4 hrow hno HCRC ho
            go_wp2_with fail
            refine HE.out.mono ?_; rintro e w5 ⟨rfl, rfl⟩
            go_wp2_with fail
            simp only [Exit.jump]
            go_ret2
            exact ⟨Or.inr ⟨HNO.out, rfl⟩, kept4⟩
        · have hno := HST.out.at_.no HNIL.out (HTB.out ho)
          have HNO := Lib.hid hno
          clear HTY HTB HTE HTS HLT hR4 hno HCRC ho
          go_wp2_with fail
          simp only [Exit.jump]
          go_ret2
          exact ⟨Or.inr ⟨HNO.out, rfl⟩, kept4⟩
  · intro PASS0
    have PASS := Lib.hid PASS0
    clear PASS0
    go_wp2_with fail
    refine (HRD.out _).mono ?_; rintro e w1 ⟨rfl, hR, hk1⟩
    have hlt := Own.lt hR
    have hst : ReadSt w (w1.alloc (.cells #[.pointer (some ⟨w.heap.size, 0, none⟩)] 75)) w1.heap.size s0 (.slice none 0 0) [] s0 := ⟨ReadAt.start _, Own.alloc hR _, Own.new _ _ _, TxsNew.nil _ _, hk1.alloc _, hlt, by simp⟩
    have HST := Lib.hid hst
    clear hst hR
    go_wp2_with fail
    go_step3
    rename_i hcont
    refine hcont _ _ (PASS.out _ _ ⟨w1.heap.size, .slice none 0 0, [], s0, rframe .., HST.out⟩)
end Go.Proofs.Ytegbekeopgponaa
