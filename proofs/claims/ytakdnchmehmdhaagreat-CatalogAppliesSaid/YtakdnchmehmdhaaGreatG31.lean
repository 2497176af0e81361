/- Layer 13 (journal): all transactions of bytes, as the program reads them. -/
import Derived.Test.YtakdnchmehmdhaaGreatG22
import Derived.Test.YtakdnchmehmdhaaGreatG30
import Derived.WalkMore
import Derived.ScopeJumps
import Derived.Outline
import Derived.Deep.QuietTactic
import Derived.BigQuiet
namespace Go.Proofs.YtakdnchmehmdhaaGreat
open Go.RowKit
set_option linter.unusedVariables false
set_option linter.unusedSimpArgs false

/-- a scope in which the run jumps back to one label: the first way may lean on what holds behind the label. -/
theorem wp_scope_jumps3 {P : Program} {a : Act} {w : World} {Q : Exit → Act → World → Prop} {c rest : Code} (l : Nat) (J : Act → World → Prop) (μ : Act → World → Nat) (hf : findLabel c l = some (Code.skip.seq rest))
    (pass : ∀ a w, J a w → rest.wp P (Exit.jump l (fun a' w' => J a' w' ∧ μ a' w' < μ a w) Q) a w)
    (first : (∀ a w, J a w → rest.wp P (Exit.jump l J Q) a w) → c.wp P (Exit.jump l J Q) a w) : (Code.scope c).wp P Q a w :=
  wp_scope_jumps l J μ hf (first (fun a w h => wp_mono (pass a w h) (fun e a' w' he => by
    cases e with
    | goto l' => exact ⟨he.1, he.2.1⟩
    | _ => exact he))) (fun a w h => wp_seq (wp_skip (pass a w h)))
theorem infoRecs : ∃ i, Tryz.prog.info? 40 = some i ∧ i.zero = some (.slice none 0 0) ∧ i.size = 1 ∧ i.bytes = 24 := by
  have hi : (Tryz.prog.info? 40).map (fun i => (i.zero, i.size, i.bytes)) = some (some (.slice none 0 0), 1, 24) := by kernel_rfl
  obtain ⟨i0, hi0, hz0, hz1, hz2⟩ := info_parts hi
  exact ⟨i0, hi0, hz0, hz1, hz2⟩
/-- a row of lists of records of the run's own, made since w0. -/
def TxsNew (w0 w : World) (v : Value) (l : List (List JRec)) : Prop :=
  ∃ vs : List (List JRec × Value), vs.map (·.1) = l ∧ w.ownsRow w0.heap.size 40 1 v l.length (vs.map (·.2)) ∧ ∀ x ∈ vs, RecsNew w0 w x.2 x.1
/-- blocks of other types, or blocks that were there. -/
def OffTxs (w0 w : World) (S : List Nat) : Prop := ∀ x ∈ S, x < w0.heap.size ∨ ∃ cs t, Own w x cs t ∧ t ≠ 48 ∧ t ≠ 55 ∧ t ≠ 40
theorem OffTxs.nil (w0 w : World) : OffTxs w0 w [] := fun x hx => by cases hx
theorem OffTxs.one {w0 w : World} {b : Nat} {cs : Array Value} {t : TypeId} (h : Own w b cs t) (h1 : t ≠ 48) (h2 : t ≠ 55) (h3 : t ≠ 40) : OffTxs w0 w [b] := fun x hx => by
  have hx : x = b := by simpa using hx
  subst hx; exact Or.inr ⟨_, _, h, h1, h2, h3⟩
theorem OffTxs.recs {w0 w : World} {S : List Nat} (h : OffTxs w0 w S) : OffRecs w0 w S := fun x hx => (h x hx).imp id (fun ⟨cs, t, o, h1, h2, _⟩ => ⟨cs, t, o, h1, h2⟩)
section
variable {S : List Nat} {w0 w w' : World} {v : Value} {l : List (List JRec)}
theorem TxsNew.kept (h : TxsNew w0 w v l) (k : Kept S w w') (hS : OffTxs w0 w S) : TxsNew w0 w' v l := by
  obtain ⟨vs, h1, h2, h3⟩ := h
  refine ⟨vs, h1, ownsRow_keptT h2 k (fun x hx hb cs hc => ?_), fun x hx => (h3 x hx).kept k hS.recs⟩
  rcases hS x hx with h1 | ⟨cs', t, o, _, _, ht⟩
  · omega
  · exact ht (own_ty o hc)
theorem TxsNew.kept0 (h : TxsNew w0 w v l) (k : Kept [] w w') : TxsNew w0 w' v l := h.kept k (OffTxs.nil _ _)
theorem TxsNew.base {w1 : World} (h : TxsNew w1 w v l) (hb : w0.heap.size ≤ w1.heap.size) : TxsNew w0 w v l := by
  obtain ⟨vs, h1, h2, h3⟩ := h
  exact ⟨vs, h1, ownsRow_base h2 hb, fun x hx => (h3 x hx).base hb⟩
theorem TxsNew.nil (w0 w : World) : TxsNew w0 w (.slice none 0 0) [] := ⟨[], rfl, World.ownsRow_nil _ _ _ _, fun x hx => by cases hx⟩
theorem TxsNew.shape (h : TxsNew w0 w v l) : ∃ p c, v = .slice p l.length c := by
  obtain ⟨vs, h1, h2, h3⟩ := h; exact own_shape h2
/-- records behind a row of another type that grew. -/
theorem RecsNew.grown {w5 : World} {base size n : Nat} {e : TypeId} {u v10 : Value} {xs : List Value} {rs : List JRec} (h : RecsNew w0 w u rs) (hr : w.ownsRow base e size v10 n xs) (hg : w.grownBy w5 v10.ownBlock) (h1 : e ≠ 48) (h2 : e ≠ 55) : RecsNew w0 w5 u rs := by
  obtain ⟨vs, e1, e2, e3⟩ := h
  exact ⟨vs, e1, ownsRow_same e2 (fun g cs hb hc => hg.block g (lt_of_block hc) (fun e' => own_row_ne hr (show Own w g cs 55 from hc) h2 e'.symm)), fun x hx => ⟨ownsRow_same (e3 x hx).1 (fun g cs hb hc => hg.block g (lt_of_block hc) (fun e' => own_row_ne hr (show Own w g cs 48 from hc) h1 e'.symm)), (e3 x hx).2⟩⟩
/-- another list behind them. -/
theorem TxsNew.more {v' kv : Value} {o : List JRec} {w5 : World} {vs : List (List JRec × Value)} (h1 : vs.map (·.1) = l) (h3 : ∀ x ∈ vs, RecsNew w0 w x.2 x.1) (h2 : w.ownsRow w0.heap.size 40 1 v l.length (vs.map (·.2)))
    (hr : RecsNew w0 w kv o) {ob : Obj} (hg : (w.alloc ob).grownBy w5 v.ownBlock) (hn : w5.ownsRow w0.heap.size 40 1 v' (l.length + 1) (vs.map (·.2) ++ [kv])) : TxsNew w0 w5 v' (l ++ [o]) := by
  have hrow := World.ownsRow.alloc h2 ob
  have hk : ∀ (u : Value) (rs : List JRec), RecsNew w0 w u rs → RecsNew w0 w5 u rs := fun u rs hu =>
    (hu.kept0 ((Kept.refl [] w).alloc ob)).grown hrow hg (by decide) (by decide)
  refine ⟨vs ++ [(o, kv)], by simp [h1], by rw [List.map_append, List.length_append, List.length_singleton]; exact hn, fun x hx => ?_⟩
  rcases List.mem_append.1 hx with hx | hx
  · exact hk _ _ (h3 x hx)
  · have hx : x = (o, kv) := by simpa using hx
    subst hx
    exact hk _ _ hr
end

theorem rframe (x0 x1 x2 x3 x4 x5 x6 x7 x8 x9 x10 x11 x12 x13 x14 x15 x16 x17 x18 x19 x20 x21 x22 x23 x24 x25 x26 x27 x28 x29 x30 x31 x32 x33 x34 x35 x36 x37 x38 x39 x40 x41 x42 x43 x44 x45 x46 x47 x48 x49 x50 x51 x52 : Value) : ∃ u : Nat → Value, ({ tmps := #[x0, x1, x2, x3, x4, x5, x6, x7, x8, x9, x10, x11, x12, x13, x14, x15, x16, x17, x18, x19, x20, x21, x22, x23, x24, x25, x26, x27, x28, x29, x30, x31, x32, x33, x34, x35, x36, x37, x38, x39, x40, x41, x42, x43, x44, x45, x46, x47, x48, x49, x50, x51, x52], defers := [] } : Act) = { tmps := #[x0, (u 1), x2, x3, x4, x5, (u 6), (u 7), (u 8), (u 9), (u 10), (u 11), (u 12), (u 13), (u 14), (u 15), (u 16), (u 17), (u 18), (u 19), (u 20), (u 21), (u 22), (u 23), (u 24), (u 25), (u 26), (u 27), (u 28), (u 29), (u 30), (u 31), (u 32), (u 33), (u 34), (u 35), (u 36), (u 37), (u 38), (u 39), (u 40), (u 41), (u 42), (u 43), (u 44), (u 45), (u 46), (u 47), (u 48), (u 49), (u 50), (u 51), (u 52)], defers := [] } :=
  ⟨fun n => [x0, x1, x2, x3, x4, x5, x6, x7, x8, x9, x10, x11, x12, x13, x14, x15, x16, x17, x18, x19, x20, x21, x22, x23, x24, x25, x26, x27, x28, x29, x30, x31, x32, x33, x34, x35, x36, x37, x38, x39, x40, x41, x42, x43, x44, x45, x46, x47, x48, x49, x50, x51, x52].getD n undef, rfl⟩
structure ReadSt (w w' : World) (rb : Nat) (s0 : List UInt8) (v4 : Value) (out : List (List JRec)) (s : List UInt8) : Prop where
  at_ : ReadAt s0 out s
  rd : RdAt w' w.heap.size s 0
  box : Own w' rb #[.pointer (some ⟨w.heap.size, 0, none⟩)] 119
  row : TxsNew w w' v4 out
  kept : Kept [] w w'
  hrb : w.heap.size < rb
  few : out.length * 8 + s.length ≤ s0.length
def ReadJ (w : World) (rb : Nat) (s0 : List UInt8) (a' : Act) (w' : World) : Prop :=
  ∃ (v4 : Value) (out : List (List JRec)) (s : List UInt8), (∃ u : Nat → Value, a' = { tmps := #[.string (bs s0), (u 1), .slice none 0 0, .int .i64 0, v4, .pointer (some ⟨rb, 0, none⟩), (u 6), (u 7), (u 8), (u 9), (u 10), (u 11), (u 12), (u 13), (u 14), (u 15), (u 16), (u 17), (u 18), (u 19), (u 20), (u 21), (u 22), (u 23), (u 24), (u 25), (u 26), (u 27), (u 28), (u 29), (u 30), (u 31), (u 32), (u 33), (u 34), (u 35), (u 36), (u 37), (u 38), (u 39), (u 40), (u 41), (u 42), (u 43), (u 44), (u 45), (u 46), (u 47), (u 48), (u 49), (u 50), (u 51), (u 52)], defers := [] }) ∧ ReadSt w w' rb s0 v4 out s
def ReadM (w : World) (_ : Act) (w' : World) : Nat := match w'.cell? ⟨w.heap.size, 0, none⟩ with | some (.string s) => s.size | _ => 0
theorem readM_at {w w' : World} {a : Act} {s : List UInt8} {x : Int} (h : RdAt w' w.heap.size s x) : ReadM w a w' = s.length := by
  unfold ReadM
  rw [show w'.cell? ⟨w.heap.size, 0, none⟩ = some (.string (bs s)) from Own.cell h 0 (by simp)]
  exact bs_size s
/-- what a call of Read tells. -/
def ReadSays (s : List UInt8) (w : World) (e : Ending) (w' : World) : Prop :=
  ((∃ ls v, readO s = some ls ∧ TxsNew w w' v ls ∧ e = .returned (.tuple #[v, .int .i64 0])) ∨ (readO s = none ∧ e = .returned (.tuple #[.slice none 0 0, .int .i64 110]))) ∧ Kept [] w w'

section
variable {w wr wx : World} {rb : Nat} {s0 : List UInt8} {v4 : Value} {out : List (List JRec)} {s s' : List UInt8} {x : Int}
/-- behind a call of the reader, or one that keeps all blocks. -/
theorem ReadSt.new_kept (h : ReadSt w wr rb s0 v4 out s) {S : List Nat} (kk : Kept S wr wx) (hS : ∀ y ∈ S, y = w.heap.size) : TxsNew w wx v4 out ∧ Own wx rb #[.pointer (some ⟨w.heap.size, 0, none⟩)] 119 ∧ Kept [] w wx :=
  ⟨h.row.kept kk (fun y hy => by rw [hS y hy]; exact Or.inr ⟨_, _, h.rd, by decide, by decide, by decide⟩), kk.own h.box (fun hb => by have := hS _ hb; have := h.hrb; omega), h.kept.call kk (fun y hy => Or.inr (by have := hS y hy; omega))⟩
end
set_option maxRecDepth 100000 in
set_option maxHeartbeats 4000000 in
theorem jread (s0 : List UInt8) (w : World) (hs : s0.length ≤ 1000000) :
    Calls Tryz.prog 52 #[.string (bs s0)] w (ReadSays s0 w) := by
  have hrd := fun W => packRead (bs s0) W
  rw [bs_data] at hrd
  have HRD := Lib.hid hrd
  have HS := Lib.hid hs
  clear hrd hs
  go_enter Tryz.func52, Tryz.ntmps52
  go_wp2_with fail
  refine wp_scope_jumps3 0 (fun a' w' => ∃ rb, ReadJ w rb s0 a' w') (ReadM w) rfl ?_ ?_
  · rintro a' w' ⟨rb, v4, out, s, ⟨u, rfl⟩, hst⟩
    have hsh := hst.row.shape
    obtain ⟨p4, c4, rfl⟩ := hsh
    have cr : w'.cell? ⟨rb, 0, none⟩ = some (.pointer (some ⟨w.heap.size, 0, none⟩)) := hst.box.cell 0 (by simp)
    have hl := rdLeft w.heap.size s 0 w' hst.rd
    by_cases hnil : s = []
    · have hro := hst.at_.end_ hnil
      subst hnil
      have HRO := Lib.hid hro
      have HL := Lib.hid hl
      have HROW := Lib.hid hst.row
      have hkk := hst.kept
      clear hro hl hst HRD
      go_wp2_with fail
      refine HL.out.mono ?_; rintro e w1 ⟨rfl, rfl⟩
      go_wp2_with fail
      simp only [Exit.jump]
      go_ret2
      exact ⟨Or.inl ⟨_, _, HRO.out, HROW.out, rfl⟩, hkk⟩
    · have hpos : 0 < s.length := List.length_pos_iff.2 hnil
      have hne : ((s.length : Int) == 0) = false := by rw [beq_eq_false_iff_ne]; omega
      have hu1 := fun W (hr : RdAt W w.heap.size s 0) (ho : Own W rb #[.pointer (some ⟨w.heap.size, 0, none⟩)] 119) => (rdU32 w.heap.size s 0 W hr).mono fun e w1 hh => (show e = .returned (.int .u32 (aR s).1) ∧ RdAt w1 w.heap.size (aR s).2.1 (aR s).2.2 ∧ Kept [w.heap.size] W w1 ∧ w1.cell? ⟨rb, 0, none⟩ = some (.pointer (some ⟨w.heap.size, 0, none⟩)) ∧ Own w1 rb #[.pointer (some ⟨w.heap.size, 0, none⟩)] 119 from ⟨hh.1, hh.2.1, hh.2.2, (hh.2.2.own ho (by have := hst.hrb; simp; omega)).cell 0 (by simp), hh.2.2.own ho (by have := hst.hrb; simp; omega)⟩)
      have hu2 := fun W (hr : RdAt W w.heap.size (aR s).2.1 (aR s).2.2) (ho : Own W rb #[.pointer (some ⟨w.heap.size, 0, none⟩)] 119) => (rdU32 w.heap.size (aR s).2.1 (aR s).2.2 W hr).mono fun e w1 hh => (show e = .returned (.int .u32 (cR s).1) ∧ RdAt w1 w.heap.size (cR s).2.1 (cR s).2.2 ∧ Kept [w.heap.size] W w1 ∧ w1.cell? ⟨rb, 0, none⟩ = some (.pointer (some ⟨w.heap.size, 0, none⟩)) ∧ Own w1 rb #[.pointer (some ⟨w.heap.size, 0, none⟩)] 119 from ⟨hh.1, hh.2.1, hh.2.2, (hh.2.2.own ho (by have := hst.hrb; simp; omega)).cell 0 (by simp), hh.2.2.own ho (by have := hst.hrb; simp; omega)⟩)
      have ba : ((aR s).1 : Int) < 4294967296 := by have : (aR s).1 < 4294967296 := numR_lt 4 s 0; omega
      have ewa : IntKind.i64.wrap ((aR s).1 : Int) = ((aR s).1 : Int) := IntWalk.i64_in _ (by omega)
      have htk := fun W (hr : RdAt W w.heap.size (cR s).2.1 (cR s).2.2) => (show Calls Tryz.prog 88 #[.pointer (some ⟨w.heap.size, 0, none⟩), .int .i64 (aR s).1] W fun r w1 => r = .returned (.string (bs (bR s).1)) ∧ RdAt w1 w.heap.size (bR s).2.1 (bR s).2.2 ∧ Kept [w.heap.size] W w1 from packTake w.heap.size (cR s).2.1 (cR s).2.2 (aR s).1 W hr)
      have hbl : (bR s).1.length ≤ s0.length := by
        by_cases hx : (bR s).2.2 = 0
        · have := (bR_less hx).2; have := hst.few; omega
        · rw [show (bR s).1 = [] from takeR_no hx]; simp
      have hrecs := fun W => jrecords (bR s).1 W
      have hcrc := fun W => csum (bs (bR s).1) W (by rw [bs_size]; have := HS.out; unfold maxLen; omega)
      rw [bs_data] at hcrc
      have hty := fun o => txO_yes (s := s) (o := o)
      have htb := fun h => txO_body (s := s) h
      have hte := fun h => txO_err (s := s) h
      have hts := fun h => txO_sum (s := s) h
      have hlt := fun h => (bR_less (s := s) h).2
      have HU1 := Lib.hid hu1
      have HU2 := Lib.hid hu2
      have HTK := Lib.hid htk
      have HRECS := Lib.hid hrecs
      have HCRC := Lib.hid hcrc
      have HTY := Lib.hid hty
      have HTB := Lib.hid htb
      have HTE := Lib.hid hte
      have HTS := Lib.hid hts
      have HLT := Lib.hid hlt
      have HL := Lib.hid hl
      have HST := Lib.hid hst
      have HNIL := Lib.hid hnil
      clear hu1 hu2 htk hrecs hcrc hty htb hte hts hlt hl hst hbl hnil HRD
      generalize aR s = A at *
      generalize cR s = C at *
      generalize bR s = B at *
      go_wp2_with fail
      refine HL.out.mono ?_; rintro e w1 ⟨rfl, rfl⟩
      clear HL
      go_wp2_with fail
      go_region_held3 (fun W => W.cell? ⟨rb, 0, none⟩ = some (.pointer (some ⟨w.heap.size, 0, none⟩))) (go_keep)
        (first
          | (go_at_call 51; ((with_reducible refine (HU1.out _ ?_ ?_).mono ?_)); (first | exact HST.out.rd | exact Own.drew HST.out.rd); (first | exact HST.out.box | exact Own.drew HST.out.box); rintro e w1 ⟨rfl, hR1, kk1, q1, ho1⟩)
          | (go_at_call 51; ((with_reducible refine (HU2.out _ ?_ ?_).mono ?_)); (first | exact hR1 | exact Own.drew hR1); (first | exact ho1 | exact Own.drew ho1); rintro e w2 ⟨rfl, hR2, kk2, q2, ho2⟩))
      all_goals
        have kkA : Kept [w.heap.size] w' w2 := Kept.trans (by first | exact kk1 | exact ((Kept.refl _ _).drew).trans kk1) kk2
        clear kk1 kk2 hR1 ho1 q1 HU1 HU2
        go_wp2_with fail
        refine (HTK.out _ hR2).mono ?_; rintro e w3 ⟨rfl, hR3, kk3⟩
        have kkB := kkA.trans kk3
        clear hR2 ho2 q2 HTK kkA kk3
        go_wp2_with fail
        refine (HRECS.out _).mono ?_; rintro e w4 ⟨hc, kk4⟩
        have kkC := kkB.trans (kk4.mono (T := [w.heap.size]) (by simp))
        obtain ⟨row4, box4, kept4⟩ := HST.out.new_kept kkC (by simp)
        have hR4 := kk4.own hR3 (by simp)
        have cr4 : w4.cell? ⟨rb, 0, none⟩ = some (.pointer (some ⟨w.heap.size, 0, none⟩)) := box4.cell 0 (by simp)
        clear HRECS kkC hR3 cr
        rcases hc with ⟨o, v, ho, hrow, rfl⟩ | ⟨ho, v, rfl⟩
        · have HE := Lib.hid (rdErr w.heap.size B.2.1 B.2.2 w4 hR4)
          by_cases hx : B.2.2 = 0
          · have hlt := HLT.out hx
            by_cases hsum : crc B.1 = C.1
            · have hstep := HST.out.at_.step HNIL.out (HTY.out o ho hx hsum)
              have hR5 : RdAt w4 w.heap.size B.2.1 0 := by have := hR4; rw [hx] at this; exact this
              rw [hx] at HE
              have hsum1 : ((crc B.1 : Int) != (C.1 : Int)) = false := by rw [hsum]; simp
              have hsum2 : ((crc B.1 : Int) == (C.1 : Int)) = true := by rw [hsum]; simp
              obtain ⟨pv, cv, rfl⟩ := hrow.shape
              obtain ⟨vs, e1, e2, e3⟩ := row4
              obtain ⟨i0, q0, q1, q2, q3⟩ := infoRecs
              have hfew := HST.out.few
              have hs0 := HS.out
              have r3 : out.length + 1 ≤ maxLen := by unfold maxLen; omega
              have r4 : (out.length + 1) * 24 ≤ 140737488355328 := by omega
              have hsz4 : w.heap.size ≤ w4.heap.size := kept4.size
              have hrn : RecsNew w w4 (.slice pv o.length cv) o := hrow.base (by have := HST.out.kept.size; have := kkB.size; omega)
              have HRN := Lib.hid hrn
              have HSTEP := Lib.hid hstep
              have HR5 := Lib.hid hR5
              have HE2 := Lib.hid e2
              have HE3 := Lib.hid e3
              have HE1 := Lib.hid e1
              have HLEN := Lib.hid hlt
              have HFEW := Lib.hid hfew
              have HCR := Lib.hid (HCRC.out w4)
              clear HTY HTB HTE HTS HLT hR4 hR5 hrow hrn hstep e1 e2 e3 hlt hsum HCRC hfew ho hx
              go_wp2_with fail
              refine HE.out.mono ?_; rintro e w5 ⟨rfl, rfl⟩
              go_wp2_with fail
              refine HCR.out.mono ?_; rintro e w5 ⟨rfl, rfl⟩
              go_wp2_with (at_builtin; go_must (refine wpList_append_own_at _ rfl (.tmp 49) (.tmp 51) 82 rfl w.heap.size 40 i0 (.slice none 0 0) 1 24 Tryz.underlying82 q0 q1 q2 q3 rfl (by decide) _ _ _ rfl (World.ownsRow.alloc HE2.out _) ⟨w4.heap.size, 0, none⟩ 1 1 [.slice pv o.length cv] rfl rfl ?_ ?_ r3 r4 ?_ ?_))
              · exact World.news_of_block (heap_alloc_new w4 _)
              · intro u hu; simp at hu; subst hu; rfl
              · simp; omega
              intro v6 w6 o6 gr6 _ _
              have hrow6 := TxsNew.more HE1.out HE3.out HE2.out HRN.out gr6 o6
              have hra := World.ownsRow.alloc HE2.out (.cells #[.slice pv o.length cv] 40)
              have hrd6 : RdAt w6 w.heap.size B.2.1 0 := own_grown hra gr6 (Own.alloc HR5.out _) (by decide)
              have hbox6 := own_grown hra gr6 (box4.alloc _) (by decide)
              have hk6 : Kept [] w w6 := (kept4.alloc _).grown gr6 (fun i hi => Or.inr (World.ownsRow.lt hra i hi).1)
              have hst6 : ReadSt w w6 rb s0 v6 (out ++ [o]) B.2.1 := ⟨HSTEP.out, hrd6, hbox6, hrow6, hk6, HST.out.hrb, by have := HFEW.out; have := HLEN.out; rw [List.length_append, List.length_singleton]; omega⟩
              have HST6 := Lib.hid hst6
              have HRD6 := Lib.hid hrd6
              obtain ⟨p6, c6, rfl⟩ := hrow6.shape
              clear gr6 o6 hra hrd6 hbox6 hk6 hst6 hrow6
              go_wp2_with fail
              go_step3
              refine ⟨rfl, ⟨rb, _, _, _, (rframe ..), HST6.out⟩, ?_⟩
              rw [readM_at HRD6.out, readM_at HST.out.rd]
              have := HLEN.out
              omega
            · have hno := HST.out.at_.no HNIL.out (HTS.out hsum)
              rw [hx] at HE
              have hsum0 : ¬ ((crc B.1 : Int) = (C.1 : Int)) := by omega
              have hsum1 : ((crc B.1 : Int) != (C.1 : Int)) = true := by simpa using hsum0
              have hsum2 : ((crc B.1 : Int) == (C.1 : Int)) = false := by simpa using hsum0
              have HNO := Lib.hid hno
              have HCR := Lib.hid (HCRC.out w4)
              obtain ⟨pv, cv, rfl⟩ := hrow.shape
              clear HTY HTB HTE HTS HLT hR4 hrow hlt hno HCRC hsum0 hsum ho hx
              go_wp2_with fail
              refine HE.out.mono ?_; rintro e w5 ⟨rfl, rfl⟩
              go_wp2_with fail
              refine HCR.out.mono ?_; rintro e w5 ⟨rfl, rfl⟩
              go_wp2_with fail
              simp only [Exit.jump]
              go_ret2
              exact ⟨Or.inr ⟨HNO.out, rfl⟩, kept4⟩
          · have hno := HST.out.at_.no HNIL.out (HTE.out hx)
            have hx1 : (B.2.2 != 0) = true := by simpa using hx
            have hx2 : (B.2.2 == 0) = false := by simpa using hx
            have HNO := Lib.hid hno
            obtain ⟨pv, cv, rfl⟩ := hrow.shape
            clear HTY HTB HTE HTS HLT hR4 hrow hno HCRC ho
            go_wp2_with fail
            refine HE.out.mono ?_; rintro e w5 ⟨rfl, rfl⟩
            go_wp2_with fail
            simp only [Exit.jump]
            go_ret2
            exact ⟨Or.inr ⟨HNO.out, rfl⟩, kept4⟩
        · have hno := HST.out.at_.no HNIL.out (HTB.out ho)
          have HNO := Lib.hid hno
          clear HTY HTB HTE HTS HLT hR4 hno HCRC ho
          go_wp2_with fail
          simp only [Exit.jump]
          go_ret2
          exact ⟨Or.inr ⟨HNO.out, rfl⟩, kept4⟩
  · intro PASS0
    have PASS := Lib.hid PASS0
    clear PASS0
    go_wp2_with fail
    refine (HRD.out _).mono ?_; rintro e w1 ⟨rfl, hR, hk1⟩
    have hlt := Own.lt hR
    have hst : ReadSt w (w1.alloc (.cells #[.pointer (some ⟨w.heap.size, 0, none⟩)] 119)) w1.heap.size s0 (.slice none 0 0) [] s0 := ⟨ReadAt.start _, Own.alloc hR _, Own.new _ _ _, TxsNew.nil _ _, hk1.alloc _, hlt, by simp⟩
    have HST := Lib.hid hst
    clear hst hR
    go_wp2_with fail
    go_step3
    rename_i hcont
    refine hcont _ _ (PASS.out _ _ ⟨w1.heap.size, .slice none 0 0, [], s0, rframe .., HST.out⟩)
structure QreadSt (w w' : World) (b : Nat) (s0 : List UInt8) (v4 : Value) (out : List (List JRec)) (s : List UInt8) : Prop where
  at_ : ReadAt s0 out s
  rd : RrAt w' b s 0
  row : TxsNew w w' v4 out
  kept : Kept [] w w'
  hb : b = w.heap.size
  few : out.length * 8 + s.length ≤ s0.length
theorem QreadSt.new_kept {w wr wx : World} {b : Nat} {s0 : List UInt8} {v4 : Value} {out : List (List JRec)} {s : List UInt8} (h : QreadSt w wr b s0 v4 out s) {S : List Nat} (kk : Kept S wr wx) (hS : ∀ y ∈ S, y = b) : TxsNew w wx v4 out ∧ Kept [] w wx := by
  obtain ⟨cs, o⟩ := h.rd.reader
  exact ⟨h.row.kept kk (fun y hy => by rw [hS y hy]; exact Or.inr ⟨_, _, o, by decide, by decide, by decide⟩), h.kept.call kk (fun y hy => Or.inr (by have := hS y hy; have := h.hb; omega))⟩
def QreadM (b : Nat) (w' : World) : Nat := match w'.cell? ⟨b, 0, none⟩, w'.cell? ⟨b, 1, none⟩ with | some (.string s), some (.int _ a) => s.size - a.toNat | _, _ => 0
theorem qreadM_at {w' : World} {b : Nat} {s : List UInt8} {x : Int} (h : RrAt w' b s x) : QreadM b w' = s.length := by
  obtain ⟨S, a, o, h1, h2, rfl, _⟩ := h
  unfold QreadM
  rw [show w'.cell? ⟨b, 0, none⟩ = some (.string (bs S)) from Own.cell o 0 (by simp), show w'.cell? ⟨b, 1, none⟩ = some (.int .i64 a) from Own.cell o 1 (by simp)]
  simp only [bs_size, List.length_drop, Int.toNat_natCast]
/-- what a call of the document's Read tells. -/
def QReadSays (s : List UInt8) (w : World) (e : Ending) (w' : World) : Prop :=
  ((∃ ls v, readO s = some ls ∧ TxsNew w w' v ls ∧ e = .returned (.tuple #[v, .bool true])) ∨ (readO s = none ∧ e = .returned (.tuple #[.slice none 0 0, .bool false]))) ∧ Kept [] w w'
set_option maxRecDepth 100000 in
set_option maxHeartbeats 4000000 in
theorem qread (s0 : List UInt8) (w : World) (hs : s0.length ≤ 1000000) :
    Calls Tryz.prog 60 #[.string (bs s0)] w (QReadSays s0 w) := by
  have hR0 : RrAt (w.alloc (.cells #[.string (bs s0), .int .i64 0, .int .i64 0] 93)) w.heap.size s0 0 := ⟨s0, 0, Own.new _ _ _, by omega, hs, by simp, fun h => absurd rfl h⟩
  have hst : QreadSt w (w.alloc (.cells #[.string (bs s0), .int .i64 0, .int .i64 0] 93)) w.heap.size s0 (.slice none 0 0) [] s0 := ⟨ReadAt.start _, hR0, TxsNew.nil _ _, (Kept.refl _ _).alloc _, rfl, by simp⟩
  have hz : ((bs s0).size : Int) = s0.length := by rw [bs_size]
  have hz2 : (bs s0).size ≤ 1000000 := by rw [bs_size]; exact hs
  have hz3 : IntKind.u64.wrap ((bs s0).size : Int) = ((bs s0).size : Int) := ju64_nat _ (by omega)
  have HST := Lib.hid hst
  have HS := Lib.hid hs
  obtain ⟨sz, hsz0⟩ : ∃ sz : Int, ((bs s0).size : Int) = sz := ⟨_, rfl⟩
  rw [hsz0] at hz hz3
  have hz4 : 0 ≤ sz ∧ sz ≤ 1000000 := by omega
  have HZ := Lib.hid hz
  clear hst hR0 hs hz hz2
  go_enter Tryz.func60, Tryz.ntmps60
  go_wp2_with fail
  generalize hbb : w.heap.size = b at *
  have HBB := Lib.hid hbb
  clear hbb
  go_loopw [4, 6, 7, 8, 9, 10] (fun v4 v6 v7 v8 v9 v10 wr => ∃ (out : List (List JRec)) (s : List UInt8), QreadSt w wr b s0 v4 out s) (fun _ _ _ _ _ _ wr => QreadM b wr)
  case atStart => exact ⟨[], s0, HST.out⟩
  case round =>
    obtain ⟨out, s, hst⟩ := hrel
    obtain ⟨p4, c4, rfl⟩ := hst.row.shape
    have hl := rrLeft b s 0 wr hst.rd
    have hce := hst.rd.err
    by_cases hnil : s = []
    · have hro := hst.at_.end_ hnil
      subst hnil
      have HRO := Lib.hid hro
      have HL := Lib.hid hl
      have HROW := Lib.hid hst.row
      have hkk := hst.kept
      clear hro hl hst HST
      go_wp2_with fail
      refine HL.out.mono ?_; rintro e w1 ⟨rfl, nd, rfl⟩
      go_wp2_with fail
      go_quiet (fail)
      go_wp2_with fail
      go_ret2
      exact ⟨Or.inl ⟨_, _, HRO.out, HROW.out.kept0 (((Kept.refl _ _).drewN _).drewN _), rfl⟩, (hkk.drewN _).drewN _⟩
    · have hpos : 0 < s.length := List.length_pos_iff.2 hnil
      have hpos' : (0 : Int) < (s.length : Int) := by omega
      have hu1 := fun W (hr : RrAt W b s 0) => (show Calls Tryz.prog 59 #[.pointer (some ⟨b, 0, none⟩), .int .i64 4] W fun r w' => r = .returned (.int .u64 (aR s).1) ∧ RrAt w' b (aR s).2.1 (aR s).2.2 ∧ Kept [b] W w' from qnum4 b s 0 W hr)
      have hu2 := fun W (hr : RrAt W b (aR s).2.1 (aR s).2.2) => (show Calls Tryz.prog 59 #[.pointer (some ⟨b, 0, none⟩), .int .i64 4] W fun r w' => r = .returned (.int .u64 (cR s).1) ∧ RrAt w' b (cR s).2.1 (cR s).2.2 ∧ Kept [b] W w' from qnum4 b _ _ W hr)
      have htk := fun W (hr : RrAt W b (cR s).2.1 (cR s).2.2) => (show Calls Tryz.prog 58 #[.pointer (some ⟨b, 0, none⟩), .int .i64 (aR s).1] W fun r w' => r = .returned (.string (bs (bR s).1)) ∧ RrAt w' b (bR s).2.1 (bR s).2.2 ∧ Kept [b] W w' from rrTake b _ _ (aR s).1 W hr)
      have ba : ((aR s).1 : Int) < 4294967296 := by have : (aR s).1 < 4294967296 := numR_lt 4 s 0; omega
      have ewa : IntKind.i64.wrap ((aR s).1 : Int) = ((aR s).1 : Int) := IntWalk.i64_in _ (by omega)
      have hbl : (bR s).1.length ≤ 1000000 := by
        by_cases hx : (bR s).2.2 = 0
        · have := (bR_less hx).2; have := hst.rd.small; omega
        · rw [show (bR s).1 = [] from takeR_no hx]; simp
      have hbig : s0.length < (aR s).1 → txO s = none := fun hh => by
        by_cases hx : (bR s).2.2 = 0
        · have h1 := bR_less hx; have := hst.few; omega
        · exact txO_err hx
      have hrecs := fun W => qrecords (bR s).1 W hbl
      have hcrc := fun W => rsum (bs (bR s).1) W (by rw [bs_size]; exact hbl)
      rw [bs_data] at hcrc
      have hcl := crc_lt (bR s).1
      have ewc : IntKind.u64.wrap ((crc (bR s).1 : Nat) : Int) = ((crc (bR s).1 : Nat) : Int) := ju64_nat _ (by omega)
      have hty := fun o => txO_yes (s := s) (o := o)
      have htb := fun h => txO_body (s := s) h
      have hte := fun h => txO_err (s := s) h
      have hts := fun h => txO_sum (s := s) h
      have hlt := fun h => (bR_less (s := s) h).2
      have HU1 := Lib.hid (hu1 _ (hst.rd))
      have HU2 := Lib.hid hu2
      have HTK := Lib.hid htk
      have HRECS := Lib.hid hrecs
      have HCRC := Lib.hid hcrc
      have HTY := Lib.hid hty
      have HTB := Lib.hid htb
      have HTE := Lib.hid hte
      have HTS := Lib.hid hts
      have HLT := Lib.hid hlt
      have HL := Lib.hid hl
      have HSR := Lib.hid hst
      have HNIL := Lib.hid hnil
      have HBIG := Lib.hid hbig
      clear ba
      clear hu2 htk hrecs hcrc hty htb hte hts hlt hl hbl hnil HST hbig hpos hcl
      generalize aR s = A at *
      generalize cR s = C at *
      generalize bR s = B at *
      generalize crc B.1 = cb at *
      obtain ⟨na, hna⟩ : ∃ na : Int, (A.1 : Int) = na := ⟨_, rfl⟩
      rw [hna] at ewa HTK HU1
      simp only [hna] at hu1
      have HNA := Lib.hid hna
      clear hna
      go_wp2_with fail
      refine HL.out.mono ?_; rintro e w1 ⟨rfl, nd, rfl⟩
      have hn1 := hu1 _ (hst.rd.kept ((Kept.refl [] wr).drewN nd) (by simp))
      have HN1 := Lib.hid hn1
      clear HL hu1 hst hn1
      have hpos2 := hpos'
      clear hpos'
      go_wp2_with fail
      refine HN1.out.mono ?_; rintro e w2 ⟨rfl, hR2, kk2⟩
      have kkA : Kept [b] wr w2 := ((Kept.refl [b] wr).drewN nd).trans kk2
      have hn2 := HU2.out _ hR2
      have HN2 := Lib.hid hn2
      clear HU2 hn2 hR2 HN1 kk2
      go_wp2_with fail
      refine HN2.out.mono ?_; rintro e w3 ⟨rfl, hR3, kk3⟩
      have kkB : Kept [b] wr w3 := kkA.trans kk3
      clear HN2 kk3 kkA
      by_cases hlen : s0.length < A.1
      · have hno := HSR.out.at_.no HNIL.out (HBIG.out hlen)
        have HNO := Lib.hid hno
        have hlen' : sz < na := by have := HZ.out; have := HNA.out; omega
        have hkk := (HSR.out.new_kept kkB (by simp)).2
        clear hno HTK HRECS HCRC HTY HTB HTE HTS HLT hlen
        go_wp2_with fail
        go_ret2
        exact ⟨Or.inr ⟨HNO.out, rfl⟩, hkk⟩
      · have hlen' : na ≤ sz := by have := HZ.out; have := HNA.out; omega
        have hn3 := HTK.out _ hR3
        have HN3 := Lib.hid hn3
        clear hn3 HTK hR3 hlen
        go_wp2_with fail
        refine HN3.out.mono ?_; rintro e w4 ⟨rfl, hR4, kk4⟩
        have kkC : Kept [b] wr w4 := kkB.trans kk4
        clear HN3 kk4 kkB
        go_wp2_with fail
        refine (HRECS.out _).mono ?_; rintro e w5 ⟨hc, kk5⟩
        have kkD : Kept [b] wr w5 := kkC.trans (kk5.mono (by simp))
        obtain ⟨row5, kept5⟩ := HSR.out.new_kept kkD (by simp)
        have hR5 := hR4.kept kk5 (by simp)
        have hce5 := hR5.err
        clear HRECS hR4 hce
        by_cases hx : B.2.2 = 0
        · have hlt := HLT.out hx
          rw [hx] at hce5
          rcases hc with ⟨o, v, ho, hrow, rfl⟩ | ⟨ho, v, rfl⟩
          · by_cases hsum : cb = C.1
            · have hstep := HSR.out.at_.step HNIL.out (HTY.out o ho hx hsum)
              have hR6 : RrAt w5 b B.2.1 0 := by have := hR5; rw [hx] at this; exact this
              subst hsum
              obtain ⟨pv, cv, rfl⟩ := hrow.shape
              obtain ⟨i0, q0, q1, q2, q3⟩ := infoRecs
              have hfew := HSR.out.few
              have hs0 := HS.out
              have r3 : out.length + 1 ≤ maxLen := by unfold maxLen; omega
              have r4 : (out.length + 1) * 24 ≤ 140737488355328 := by omega
              have hsz5 : w.heap.size ≤ w5.heap.size := kept5.size
              have hrn : RecsNew w w5 (.slice pv o.length cv) o := hrow.base (by have := HSR.out.kept.size; have := kkC.size; omega)
              have HRN := Lib.hid hrn
              have HSTEP := Lib.hid hstep
              have HR6 := Lib.hid hR6
              have HROW5 := Lib.hid row5
              have HLEN := Lib.hid hlt
              have HFEW := Lib.hid hfew
              have HCR := Lib.hid (HCRC.out w5)
              clear HTY HTB HTE HTS HLT hR5 hR6 hrow hrn hstep row5 hlt HCRC hfew ho hx
              go_wp2_with fail
              refine HCR.out.mono ?_; rintro e w6 ⟨rfl, kk6⟩
              have row6 := HROW5.out.kept0 kk6
              obtain ⟨vs, e1, e2, e3⟩ := row6
              have HRN6 := Lib.hid (HRN.out.kept0 kk6)
              have HR7 := Lib.hid (HR6.out.kept kk6 (by simp))
              have kept6 := kept5.trans kk6
              have hsz6 : w.heap.size ≤ w6.heap.size := kept6.size
              have HE1 := Lib.hid e1
              have HE2 := Lib.hid e2
              have HE3 := Lib.hid e3
              clear e1 e2 e3 kk6 HCR HROW5 HRN HR6
              go_wp2_with (at_builtin; go_must (refine wpList_append_own_at _ rfl (.tmp 51) (.tmp 53) 82 rfl w.heap.size 40 i0 (.slice none 0 0) 1 24 Tryz.underlying82 q0 q1 q2 q3 rfl (by decide) _ _ _ rfl (World.ownsRow.alloc HE2.out _) ⟨w6.heap.size, 0, none⟩ 1 1 [.slice pv o.length cv] rfl rfl ?_ ?_ r3 r4 ?_ ?_))
              · exact World.news_of_block (heap_alloc_new w6 _)
              · intro u hu; simp at hu; subst hu; rfl
              · simp; omega
              intro v7 w7 o7 gr7 _ _
              have hrow7 := TxsNew.more HE1.out HE3.out HE2.out HRN6.out gr7 o7
              have hra := World.ownsRow.alloc HE2.out (.cells #[.slice pv o.length cv] 40)
              have hrd7 : RrAt w7 b B.2.1 0 := (HR7.out.kept ((Kept.refl [] w6).alloc _) (by simp)).grown hra gr7 (by decide)
              have hk7 : Kept [] w w7 := (kept6.alloc _).grown gr7 (fun i hi => Or.inr (World.ownsRow.lt hra i hi).1)
              have hst7 : QreadSt w w7 b s0 v7 (out ++ [o]) B.2.1 := ⟨HSTEP.out, hrd7, hrow7, hk7, HSR.out.hb, by have := HFEW.out; have := HLEN.out; rw [List.length_append, List.length_singleton]; omega⟩
              have HST7 := Lib.hid hst7
              have HRD7 := Lib.hid hrd7
              obtain ⟨p7, c7, rfl⟩ := hrow7.shape
              clear gr7 o7 hra hrd7 hk7 hst7 hrow7
              go_wp2_with fail
              go_roundw
              case rel => exact ⟨_, _, HST7.out⟩
              case measure =>
                rw [qreadM_at HRD7.out, qreadM_at HSR.out.rd]
                have := HLEN.out
                omega
            · have hno := HSR.out.at_.no HNIL.out (HTS.out hsum)
              have hsum0 : ¬ ((C.1 : Int) = (cb : Int)) := by omega
              have hsum1 : ((C.1 : Int) != (cb : Int)) = true := by simpa using hsum0
              have hsum2 : ((C.1 : Int) == (cb : Int)) = false := by simpa using hsum0
              have HNO := Lib.hid hno
              have HCR := Lib.hid (HCRC.out w5)
              obtain ⟨pv, cv, rfl⟩ := hrow.shape
              clear HTY HTB HTE HTS HLT hR5 hrow hlt hno HCRC hsum0 hsum ho hx
              go_wp2_with fail
              refine HCR.out.mono ?_; rintro e w6 ⟨rfl, kk6⟩
              go_wp2_with fail
              go_ret2
              exact ⟨Or.inr ⟨HNO.out, rfl⟩, kept5.trans kk6⟩
          · have hno := HSR.out.at_.no HNIL.out (HTB.out ho)
            have HNO := Lib.hid hno
            clear HTY HTB HTE HTS HLT hR5 hno HCRC ho hlt hx
            go_wp2_with fail
            go_ret2
            exact ⟨Or.inr ⟨HNO.out, rfl⟩, kept5⟩
        · have hno := HSR.out.at_.no HNIL.out (HTE.out hx)
          have hx1 : (B.2.2 != 0) = true := by simpa using hx
          have hx2 : (B.2.2 == 0) = false := by simpa using hx
          have HNO := Lib.hid hno
          rcases hc with ⟨o, v, ho, hrow, rfl⟩ | ⟨ho, v, rfl⟩
          all_goals
            clear HTY HTB HTE HTS HLT hR5 hno HCRC ho
            go_wp2_with fail
            go_ret2
            exact ⟨Or.inr ⟨HNO.out, rfl⟩, kept5⟩
end Go.Proofs.YtakdnchmehmdhaaGreat
