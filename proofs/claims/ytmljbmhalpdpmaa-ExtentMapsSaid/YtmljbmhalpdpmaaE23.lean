/- Layer 10 (extent): the map of what is free: New, Take, Hold, Give, Free, Room. -/
import Derived.Test.YtmljbmhalpdpmaaE21
namespace Go.Proofs.Ytmljbmhalpdpmaa
open Go.RowKit
set_option linter.unusedVariables false
set_option linter.unusedSimpArgs false

/-- a row of runs of the run's own. -/
def RunsRow (w : World) (v : Value) (l : List (Int × Int)) : Prop := ∃ base, w.ownsRow base 57 2 v l.length (rcells l)
/-- blocks of other types than runs'. -/
def NoRuns (w : World) (S : List Nat) : Prop := ∀ x ∈ S, ∃ cs t, Own w x cs t ∧ t ≠ 57
theorem NoRuns.nil (w : World) : NoRuns w [] := fun x hx => by cases hx
theorem NoRuns.one {w : World} {b : Nat} {cs : Array Value} {t : TypeId} (h : Own w b cs t) (ht : t ≠ 57) : NoRuns w [b] := fun x hx => by
  have hx : x = b := by simpa using hx
  subst hx
  exact ⟨_, _, h, ht⟩
theorem RunsRow.kept {S : List Nat} {w w' : World} {v : Value} {l : List (Int × Int)} (h : RunsRow w v l) (k : Kept S w w') (hS : NoRuns w S) : RunsRow w' v l := by
  obtain ⟨base, r⟩ := h
  refine ⟨base, ownsRow_keptT r k (fun x hx _ cs hc => ?_)⟩
  obtain ⟨cs', t, o, ht⟩ := hS x hx
  have o' : w.heap[x]? = some (.cells cs' t (0, 0)) := o
  rw [o'] at hc
  injection hc with hc
  injection hc with _ e
  exact ht e
theorem RunsRow.kept0 {w w' : World} {v : Value} {l : List (Int × Int)} (h : RunsRow w v l) (k : Kept [] w w') : RunsRow w' v l := h.kept k (NoRuns.nil w)
theorem RunsRow.in_ {w : World} {v : Value} {l : List (Int × Int)} (h : RunsRow w v l) : RunsIn w v l 0 w.heap.size := by
  obtain ⟨base, r⟩ := h
  exact (RunsIn.of_own r).weaken (Nat.zero_le _) (Nat.le_refl _) (Nat.le_refl _)
theorem RunsRow.shape {w : World} {v : Value} {l : List (Int × Int)} (h : RunsRow w v l) : ∃ p c, v = .slice p l.length c := by
  obtain ⟨base, r⟩ := h; exact own_shape r
theorem RunsRow.none (w : World) (c : Nat) : RunsRow w (.slice none 0 0) [] := ⟨0, World.ownsRow_nil _ _ _ _⟩
/-- a map stands at block b: from, sectors, the plain list of what is free. -/
structure MapAt (w : World) (b : Nat) (f s : Int) (F : List (Int × Int)) : Prop where
  cells : ∃ v, Own w b #[.bool true, .int .i64 f, .int .i64 s, v] 71 ∧ RunsRow w v F
  pl : Pl 0 F
theorem MapAt.lt {w : World} {b : Nat} {f s : Int} {F : List (Int × Int)} (h : MapAt w b f s F) : b < w.heap.size := by
  obtain ⟨v, o, _⟩ := h.cells; exact o.lt
theorem MapAt.kept {S : List Nat} {w w' : World} {b : Nat} {f s : Int} {F : List (Int × Int)} (h : MapAt w b f s F) (k : Kept S w w') (hb : b ∉ S) (hS : NoRuns w S) : MapAt w' b f s F := by
  obtain ⟨v, o, r⟩ := h.cells
  exact ⟨⟨v, k.own o hb, r.kept k hS⟩, h.pl⟩
theorem MapAt.kept0 {w w' : World} {b : Nat} {f s : Int} {F : List (Int × Int)} (h : MapAt w b f s F) (k : Kept [] w w') : MapAt w' b f s F := h.kept k (by simp) (NoRuns.nil w)
theorem MapAt.noRuns {w : World} {b : Nat} {f s : Int} {F : List (Int × Int)} (h : MapAt w b f s F) : NoRuns w [b] := by
  obtain ⟨v, o, _⟩ := h.cells
  exact NoRuns.one o (by decide)
theorem MapAt.set {w : World} {b : Nat} {f s : Int} {F' : List (Int × Int)} {v v' : Value} (o : Own w b #[.bool true, .int .i64 f, .int .i64 s, v] 71) (r : RunsRow w v' F') (hp : Pl 0 F') : MapAt (w.setCell ⟨b, 3, none⟩ v') b f s F' := by
  refine ⟨⟨v', ?_, r.kept (S := [b]) ((Kept.refl [b] w).setCell (p := ⟨b, 3, none⟩) (Or.inl (by simp)) v') (NoRuns.one o (by decide))⟩, hp⟩
  have := o.set 3 v'
  simpa using this
theorem RunsIn.len {w : World} {v : Value} {l : List (Int × Int)} {lo hi : Nat} (h : RunsIn w v l lo hi) : l.length ≤ maxLen := by
  rcases h with ⟨rfl, _⟩ | ⟨b, off, c, rfl, _, _, _, _, _, h7, h8⟩
  · exact Nat.zero_le _
  · omega
set_option maxRecDepth 100000 in
theorem mok (b : Nat) (w : World) (hc : w.cell? ⟨b, 0, none⟩ = some (.bool true)) : Calls Try.prog 50 #[.pointer (some ⟨b, 0, none⟩)] w fun e w' => e = .returned (.bool true) ∧ w = w' := by
  go_enter Try.func50, Try.ntmps50
  go_wp2_with fail
  go_ret
  exact ⟨rfl, rfl⟩
set_option maxRecDepth 100000 in
theorem mfree {w : World} {b : Nat} {f s : Int} {F : List (Int × Int)} (h : MapAt w b f s F) : Calls Try.prog 31 #[.pointer (some ⟨b, 0, none⟩)] w (GivesR F w) := by
  obtain ⟨v, o, r⟩ := h.cells
  have hlen := h.pl.len0
  have hx := pcloneR v F 0 w.heap.size w r.in_ (by omega)
  obtain ⟨c0, c1, c2, c3⟩ := o.c4
  have hm := mok b w c0
  obtain ⟨p, c, rfl⟩ := r.shape
  have HX := Lib.hid hx
  have HM := Lib.hid hm
  clear hx r hm h
  unfold GivesR at *
  go_enter Try.func31, Try.ntmps31
  go_wp2_with fail
  refine HM.out.mono ?_; rintro e w' ⟨rfl, rfl⟩
  go_wp2_with fail
  refine HX.out.mono ?_; rintro e w1 ⟨v1, rfl, r1, k1⟩
  have R1 := Lib.hid r1
  obtain ⟨p1, c1, rfl⟩ := own_shape r1
  clear r1
  go_wp2_with fail
  go_ret
  exact ⟨_, rfl, R1.out, k1⟩
set_option maxRecDepth 100000 in
theorem mroom {w : World} {b : Nat} {f s : Int} {F : List (Int × Int)} (h : MapAt w b f s F) : Calls Try.prog 32 #[.pointer (some ⟨b, 0, none⟩)] w fun e w' => e = .returned (.int .i64 (countL F)) ∧ Kept [] w w' := by
  have hx := mfree h
  have hlen := h.pl.len0
  have hc := fun v W lo hi (r : RunsIn W v F lo hi) => xcount v F lo hi W r (by omega) (pl_wf (Int.le_refl _) h.pl)
  have HX := Lib.hid hx
  have HC := Lib.hid hc
  clear hx hc h
  unfold GivesR at *
  generalize countL F = n at *
  go_enter Try.func32, Try.ntmps32
  go_wp2_with fail
  refine HX.out.mono ?_; rintro e w1 ⟨v1, rfl, r1, k1⟩
  have hcc := HC.out _ _ _ _ (RunsIn.of_own r1)
  have HCC := Lib.hid hcc
  clear r1 hcc HX HC
  go_wp2_with fail
  refine HCC.out.mono ?_; rintro e w2 ⟨rfl, k2⟩
  go_wp2_with fail
  go_ret
  exact ⟨rfl, k1.trans k2⟩
/-- what is free behind a Take. -/
def takeF (F : List (Int × Int)) (n : Int) : List (Int × Int) := if lowCode F n = 0 then minusL F (lowRes F n) else F
def TakeSays (b : Nat) (f s : Int) (F : List (Int × Int)) (n : Int) (w : World) (e : Ending) (w' : World) : Prop :=
  ∃ v, e = .returned (.tuple #[v, .int .i64 (lowCode F n)]) ∧ RunsRow w' v (lowRes F n) ∧ MapAt w' b f s (takeF F n) ∧ Kept [b] w w'
theorem lowRes_no {F : List (Int × Int)} {n : Int} (h : lowCode F n ≠ 0) : lowRes F n = [] := by unfold lowRes; rw [if_neg h]
set_option maxRecDepth 100000 in
set_option maxHeartbeats 1000000 in
theorem mtake {w : World} {b : Nat} {f s : Int} {F : List (Int × Int)} (h : MapAt w b f s F) (n : Int) (hn1 : -9223372036854775808 ≤ n) (hn2 : n ≤ 9223372036854775807) :
    Calls Try.prog 28 #[.pointer (some ⟨b, 0, none⟩), .int .i64 n] w (TakeSays b f s F n w) := by
  obtain ⟨v, o, r⟩ := h.cells
  have hlen := h.pl.len0
  have hwf := pl_wf (Int.le_refl _) h.pl
  have hx := xlowest v F n 0 w.heap.size w r.in_ (by omega) hwf hn1 hn2
  have hlr := lowRes_pl F n
  have hlr2 := hlr.len0
  have hmi := fun v1 w1 lo1 hi1 (k1 : Kept [] w w1) (r1 : RunsIn w1 v1 (lowRes F n) lo1 hi1) => xminus v F 0 w1.heap.size v1 (lowRes F n) lo1 hi1 w1 (r.kept0 k1).in_ r1 (by omega) (by omega) hwf (pl_wf (Int.le_refl _) hlr)
  obtain ⟨c0, c1, c2, c3⟩ := o.c4
  have hm := mok b w c0
  have hF : lowCode F n ≠ 0 → takeF F n = F ∧ lowRes F n = [] := fun hc => ⟨by unfold takeF; rw [if_neg hc], lowRes_no hc⟩
  have hF2 : lowCode F n = 0 → takeF F n = minusL F (lowRes F n) := fun hc => by unfold takeF; rw [if_pos hc]
  have hbw := o.lt
  obtain ⟨p, c, rfl⟩ := r.shape
  have HX := Lib.hid hx
  have HM := Lib.hid hm
  have HMI := Lib.hid hmi
  have HF := Lib.hid hF
  have HF2 := Lib.hid hF2
  have HH := Lib.hid h
  have HO := Lib.hid o
  clear hx r hm h hmi hF hF2 o hwf hlr
  unfold TakeSays
  unfold GivesR at HMI
  unfold LowSays at HX
  generalize takeF F n = T at *
  generalize lowRes F n = L at *
  generalize lowCode F n = C at *
  go_enter Try.func28, Try.ntmps28
  go_wp2_with fail
  refine HM.out.mono ?_; rintro e w' ⟨rfl, rfl⟩
  go_wp2_with fail
  refine HX.out.mono ?_; rintro e w1 ⟨v1, rfl, r1, k1⟩
  have hmm := HMI.out _ _ _ _ k1 (RunsIn.of_own r1)
  have HMM := Lib.hid hmm
  have hR1 : RunsRow w1 v1 L := ⟨_, r1⟩
  have R1 := Lib.hid hR1
  have o1 := k1.own HO.out (by simp)
  obtain ⟨d0, d1, d2, d3⟩ := o1.c4
  have HO1 := Lib.hid o1
  have hs1' := k1.size
  obtain ⟨p1, q1, rfl⟩ := own_shape r1
  clear hmm r1 hR1 HX HMI o1
  by_cases hC0 : C = 0
  · have h2 := HF2.out hC0
    have H2 := Lib.hid h2
    subst hC0
    clear h2
    go_wp2_with fail
    refine HMM.out.mono ?_; rintro e w2 ⟨v2, rfl, r2, k2⟩
    have o2 := k2.own HO1.out (by simp)
    have z2 := o2.free 3
    have k12 := k1.trans k2
    have hR2 : RunsRow w2 v2 (minusL F L) := ⟨_, r2⟩
    have hms := MapAt.set o2 hR2 (canon_pl _)
    have HMS := Lib.hid hms
    have hbw2 := o2.lt
    have hkk : Kept [b] w (w2.setCell ⟨b, 3, none⟩ v2) := (k12.mono (by simp)).setCell (p := ⟨b, 3, none⟩) (Or.inl (by simp)) v2
    have hR : RunsRow (w2.setCell ⟨b, 3, none⟩ v2) (.slice p1 L.length q1) L := (R1.out.kept0 k2).kept ((Kept.refl [b] w2).setCell (p := ⟨b, 3, none⟩) (Or.inl (by simp)) v2) (NoRuns.one o2 (by decide))
    have HR := Lib.hid hR
    have d03 := o2.c4
    obtain ⟨p2, q2, rfl⟩ := own_shape r2
    clear r2 o2 hms hR hR2
    go_wp2_with fail
    go_ret2
    refine ⟨_, rfl, HR.out, ?_, hkk⟩
    rw [H2.out]; exact HMS.out
  · obtain ⟨h2, h3⟩ := HF.out hC0
    have H2 := Lib.hid h2
    have H3 := Lib.hid h3
    clear h2 h3
    go_wp2_with fail
    go_ret2
    refine ⟨_, rfl, ?_, ?_, k1.mono (by simp)⟩
    · rw [H3.out]; exact RunsRow.none _ 0
    · rw [H2.out]; exact HH.out.kept0 k1
end Go.Proofs.Ytmljbmhalpdpmaa
