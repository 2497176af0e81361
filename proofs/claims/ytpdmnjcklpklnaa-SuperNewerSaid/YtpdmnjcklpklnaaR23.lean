/- Walks of chapter 11's statements: the next one, or, spoilt, the first. -/
import Derived.Test.YtpdmnjcklpklnaaR22
namespace Go.Proofs.Ytpdmnjcklpklnaa
open Go.RowKit
set_option linter.unusedVariables false
set_option linter.unusedSimpArgs false

theorem Own.c6a {w : World} {b : Nat} {x0 x1 x2 x3 x4 x5 : Value} {t : TypeId} (h : Own w b #[x0, x1, x2, x3, x4, x5] t) (u : Value) : Own (w.setCell ⟨b, 0, none⟩ u) b #[u, x1, x2, x3, x4, x5] t := h.set 0 u
theorem Own.c6d {w : World} {b : Nat} {x0 x1 x2 x3 x4 x5 : Value} {t : TypeId} (h : Own w b #[x0, x1, x2, x3, x4, x5] t) (u : Value) : Own (w.setCell ⟨b, 3, none⟩ u) b #[x0, x1, x2, u, x4, x5] t := h.set 3 u
/-- of one and the next one, each in its slot, the next one counts. -/
theorem pick_next {a b : List UInt8} (ha : isSB a) (hb : isSB b) (h : (dec b).seq = (dec a).seq + 1) :
    ((dec a).seq % 2 = 0 → PickOf a b (some b)) ∧ ((dec a).seq % 2 = 1 → PickOf b a (some b)) := by
  refine ⟨fun h0 => Or.inr (Or.inr ⟨rfl, ⟨hb, by omega⟩, fun hc => ?_⟩), fun h1 => Or.inr (Or.inl ⟨rfl, ⟨hb, by omega⟩, fun hc => ?_⟩)⟩
  · have := hc.2; omega
  · have := hc.2; omega
/-- beside one that is spoilt the other one counts. -/
theorem pick_lone {a b : List UInt8} (ha : isSB a) (hb : ¬ isSB b) :
    ((dec a).seq % 2 = 0 → PickOf a b (some a)) ∧ ((dec a).seq % 2 = 1 → PickOf b a (some a)) :=
  ⟨fun h0 => Or.inr (Or.inl ⟨rfl, ⟨ha, h0⟩, fun hc => hb hc.1.1⟩), fun h1 => Or.inr (Or.inr ⟨rfl, ⟨ha, h1⟩, fun hc => hb hc.1.1⟩)⟩
theorem ppick_of (a b c : List UInt8) (s : SB) (W : World) (ha : a.length ≤ 1000000) (hb : b.length ≤ 1000000) (hp : PickOf a b (some c)) (hd : dec c = s) :
    Calls Try.prog 18 #[.string (bs a), .string (bs b)] W fun e w' => ∃ pg cg, e = .returned (.tuple #[.agg (s.cells (.slice pg s.runs.length cg)), .int .i64 0]) ∧ RunsIn w' (.slice pg s.runs.length cg) s.runs W.heap.size w'.heap.size ∧ Kept [] W w' :=
  (ppick a b W ha hb).mono fun e w' hh => by
    obtain ⟨⟨o, v, h1, h2, h3⟩, hk⟩ := hh
    have ho := h1.uniq hp
    subst ho
    subst hd
    obtain ⟨pg, cg, rfl⟩ := h3.shape
    exact ⟨pg, cg, h2, h3, hk⟩

set_option maxRecDepth 100000 in
set_option maxHeartbeats 4000000 in
theorem newerLaw (s : SB) (u : Value) (a : Int) (t : ByteArray) (w : World) (hr : RunsIn w u s.runs 0 w.heap.size) (fs : s.fits) (ha : (Lit.int .i64 a).wf = true) (ht : t.size ≤ maxLen) :
    Calls Try.prog 6 #[.agg (s.cells u), .int .i64 a, .string t] w fun e w' => e = .returned (.bool true) ∧ Below w.heap.size w w' := by
  unfold maxLen at ht
  obtain ⟨p, c, rfl⟩ := hr.shape
  have hq : s.seq < 18446744073709551616 := fs.1
  have o0 := Own.new w (s.cells (.slice p s.runs.length c)) 25
  have hf := fun W hk => fewS s (.slice p s.runs.length c) 0 w.heap.size W (hr.kept0 hk)
  unfold SB.cells at *
  have hk0 : Kept [] w (w.alloc (.cells #[.int .u64 s.seq, .int .i64 s.sectors, .int .i64 s.journal, .int .i64 s.used, .int .i64 s.size, .slice p s.runs.length c] 25)) := (Kept.refl _ _).alloc _
  obtain ⟨x0, x1, x2, x3, x4, x5⟩ := o0.c6
  have HF := Lib.hid hf
  clear hf
  by_cases hl : (s.runs.length : Int) ≤ 30
  · by_cases hsz : (t.size : Int) ≤ 1000
    · by_cases h63 : (s.seq : Int) ≤ 9223372036854775808
      · obtain ⟨q1, hq1⟩ : ∃ q1, q1 = s.seq + 1 := ⟨_, rfl⟩
        have e1 : (s.seq : Int) + 1 = (q1 : Int) := by omega
        have ew : IntKind.u64.wrap ((s.seq : Int) + 1) = (q1 : Int) := by rw [e1]; exact u64_nat q1 (by omega)
        have hnext : ∀ W, Kept [] w W → Calls Try.prog 20 #[.agg #[.int .u64 s.seq, .int .i64 s.sectors, .int .i64 s.journal, .int .i64 s.used, .int .i64 s.size, .slice p s.runs.length c]] W fun e w' => ∃ p1 c1, e = .returned (.agg #[.int .u64 q1, .int .i64 s.sectors, .int .i64 s.journal, .int .i64 s.used, .int .i64 s.size, .slice p1 s.runs.length c1]) ∧ RunsIn w' (.slice p1 s.runs.length c1) s.runs W.heap.size w'.heap.size ∧ Kept [] W w' := fun W hk =>
          (pnext s _ _ _ W (hr.kept0 hk) (by omega) (by omega)).mono fun e w' hh => by
            obtain ⟨⟨v, h1, h2⟩, h3⟩ := hh
            obtain ⟨p1, c1, rfl⟩ := h2.shape
            refine ⟨p1, c1, ?_, h2, h3⟩
            rw [h1, hq1]; rfl
        have hsame := fun va vb lo hi lo' hi' W (h : RunsIn W va s.runs lo hi) (h' : RunsIn W vb s.runs lo' hi') => rsame (SB.mk q1 s.sectors s.journal s.used s.size s.runs) (SB.mk q1 s.sectors s.journal s.used s.size s.runs) va vb lo hi lo' hi' W h h' (by show s.runs.length ≤ _; omega) (by show s.runs.length ≤ _; omega)
        have hsame2 := fun va vb lo hi lo' hi' W (h : RunsIn W va s.runs lo hi) (h' : RunsIn W vb s.runs lo' hi') => rsame (SB.mk q1 s.sectors s.journal a s.size s.runs) (SB.mk q1 s.sectors s.journal a s.size s.runs) va vb lo hi lo' hi' W h h' (by show s.runs.length ≤ _; omega) (by show s.runs.length ≤ _; omega)
        have hsame3 := fun va vb lo hi lo' hi' W (h : RunsIn W va s.runs lo hi) (h' : RunsIn W vb s.runs lo' hi') => rsame s s va vb lo hi lo' hi' W h h' (by omega) (by omega)
        rw [SB.same_self] at hsame hsame2 hsame3
        unfold SB.cells at hsame hsame2 hsame3
        have HN := Lib.hid hnext
        have HA1 := Lib.hid hsame
        have HA2 := Lib.hid hsame2
        have HA3 := Lib.hid hsame3
        have HQ1 := Lib.hid hq1
        clear hnext hsame hsame2 hsame3 hq1
        go_enter Try.func6, Try.ntmps6
        go_wp2_with fail
        refine (HF.out _ hk0).mono ?_; rintro e w1 ⟨rfl, k1⟩
        have hK1 := hk0.trans k1
        have o1 := k1.own o0 (by simp)
        obtain ⟨x0, x1, x2, x3, x4, x5⟩ := o1.c6
        go_wp2_with fail
        refine (HN.out _ hK1).mono ?_; rintro e w2 ⟨p1, c1, rfl, hrt, k2⟩
        obtain ⟨x0, x1, x2, x3, x4, x5⟩ := (k2.own o1 (by simp)).c6
        obtain ⟨z0, z1, z2, z3, z4, z5⟩ := ((k2.own o1 (by simp)).alloc (.cells #[.int .u64 q1, .int .i64 s.sectors, .int .i64 s.journal, .int .i64 s.used, .int .i64 s.size, .slice p1 s.runs.length c1] 25)).c6
        obtain ⟨v0, v1, v2, v3, v4, v5⟩ := (((k2.own o1 (by simp)).alloc (.cells #[.int .u64 q1, .int .i64 s.sectors, .int .i64 s.journal, .int .i64 s.used, .int .i64 s.size, .slice p1 s.runs.length c1] 25)).alloc (.cells #[.int .u64 s.seq, .int .i64 s.sectors, .int .i64 s.journal, .int .i64 s.used, .int .i64 s.size, .slice p s.runs.length c] 25)).c6
        go_wp2_with fail
        obtain ⟨ot, _⟩ := own_two w2 #[.int .u64 q1, .int .i64 s.sectors, .int .i64 s.journal, .int .i64 s.used, .int .i64 s.size, .slice p1 s.runs.length c1] #[.int .u64 q1, .int .i64 s.sectors, .int .i64 s.journal, .int .i64 s.used, .int .i64 s.size, .slice p s.runs.length c] 25 25
        have o3 := ((k2.own o1 (by simp)).alloc (.cells #[.int .u64 q1, .int .i64 s.sectors, .int .i64 s.journal, .int .i64 s.used, .int .i64 s.size, .slice p1 s.runs.length c1] 25)).alloc (.cells #[.int .u64 q1, .int .i64 s.sectors, .int .i64 s.journal, .int .i64 s.used, .int .i64 s.size, .slice p s.runs.length c] 25)
        have hwt : w.heap.size < w2.heap.size := (k2.own o1 (by simp)).lt
        have hK3 := ((hK1.trans k2).alloc (.cells #[.int .u64 q1, .int .i64 s.sectors, .int .i64 s.journal, .int .i64 s.used, .int .i64 s.size, .slice p1 s.runs.length c1] 25)).alloc (.cells #[.int .u64 q1, .int .i64 s.sectors, .int .i64 s.journal, .int .i64 s.used, .int .i64 s.size, .slice p s.runs.length c] 25)
        have hrt3 := (hrt.kept0 ((Kept.refl _ _).alloc (.cells #[.int .u64 q1, .int .i64 s.sectors, .int .i64 s.journal, .int .i64 s.used, .int .i64 s.size, .slice p1 s.runs.length c1] 25))).kept0 ((Kept.refl _ _).alloc (.cells #[.int .u64 q1, .int .i64 s.sectors, .int .i64 s.journal, .int .i64 s.used, .int .i64 s.size, .slice p s.runs.length c] 25))
        refine (HA1.out _ _ _ _ _ _ _ hrt3 (hr.kept0 hK3)).mono ?_; rintro e w4 ⟨rfl, k4⟩
        have o4 := k4.own o3 (by simp)
        have ot4 := k4.own ot (by simp)
        have hK4 := hK3.trans k4
        have hrt4 := hrt3.kept0 k4
        have zt := ot4.z6
        obtain ⟨y0, y1, y2, y3, y4, y5⟩ := ot4.c6
        obtain ⟨x0, x1, x2, x3, x4, x5⟩ := o4.c6
        clear hrt k2 o1 k1 hK1 o3 ot hK3 hrt3 k4 HA1 HN HF z0 z1 z2 z3 z4 z5 v0 v1 v2 v3 v4 v5
        go_wp2_with fail
        have oB := o4.other (p := ⟨w2.heap.size, 3, none⟩) (Nat.ne_of_lt hwt) (.int .i64 a)
        have otB := ot4.c6d (.int .i64 a)
        have hKB := hK4.setCell (p := ⟨w2.heap.size, 3, none⟩) (Or.inr (Nat.le_of_lt hwt)) (.int .i64 a)
        have hrtB := hrt4.kept ((Kept.refl [w2.heap.size] _).setCell (p := ⟨w2.heap.size, 3, none⟩) (Or.inl (by simp)) (.int .i64 a)) (fun x hx => by simp at hx; omega)
        clear o4 ot4 hK4 hrt4 zt y0 y1 y2 y3 y4 y5 x0 x1 x2 x3 x4 x5
        generalize w4.setCell ⟨w2.heap.size, 3, none⟩ (.int .i64 a) = wB at *
        generalize w2.heap.size = tb at *
        have hS : ∀ W, Kept [] wB W → W.cell? ⟨w.heap.size, 0, none⟩ = some (.int .u64 s.seq) ∧ W.cell? ⟨w.heap.size, 1, none⟩ = some (.int .i64 s.sectors) ∧ W.cell? ⟨w.heap.size, 2, none⟩ = some (.int .i64 s.journal) ∧ W.cell? ⟨w.heap.size, 3, none⟩ = some (.int .i64 s.used) ∧ W.cell? ⟨w.heap.size, 4, none⟩ = some (.int .i64 s.size) ∧ W.cell? ⟨w.heap.size, 5, none⟩ = some (.slice p s.runs.length c) ∧ W.cell? ⟨tb, 0, none⟩ = some (.int .u64 q1) ∧ W.cell? ⟨tb, 1, none⟩ = some (.int .i64 s.sectors) ∧ W.cell? ⟨tb, 2, none⟩ = some (.int .i64 s.journal) ∧ W.cell? ⟨tb, 3, none⟩ = some (.int .i64 a) ∧ W.cell? ⟨tb, 4, none⟩ = some (.int .i64 s.size) ∧ W.cell? ⟨tb, 5, none⟩ = some (.slice p1 s.runs.length c1) := fun W hk => by
          obtain ⟨a0, a1, a2, a3, a4, a5⟩ := (hk.own oB (by simp)).c6
          obtain ⟨b0, b1, b2, b3, b4, b5⟩ := (hk.own otB (by simp)).c6
          exact ⟨a0, a1, a2, a3, a4, a5, b0, b1, b2, b3, b4, b5⟩
        have hrs : ∀ W, Kept [] wB W → RunsIn W (.slice p s.runs.length c) s.runs 0 w.heap.size := fun W hk => hr.kept0 (hKB.trans hk)
        have hrT : ∀ W, Kept [] wB W → RunsIn W (.slice p1 s.runs.length c1) s.runs _ _ := fun W hk => hrtB.kept0 hk
        have HS := Lib.hid hS
        have HRS := Lib.hid hrs
        have HRT := Lib.hid hrT
        have hB : ∀ W, Kept [] wB W → Below w.heap.size w W := fun W hk => (hKB.trans hk).below
        have HB := Lib.hid hB
        have hkb : Kept [] wB wB := Kept.refl _ _
        clear hS hB oB otB hrtB
        by_cases hm1 : s.may
        · have hmy1 : ∀ W, Kept [] wB W → Calls Try.prog 11 #[.agg #[.int .u64 s.seq, .int .i64 s.sectors, .int .i64 s.journal, .int .i64 s.used, .int .i64 s.size, .slice p s.runs.length c]] W fun e w' => e = .returned (.bool true) ∧ Kept [] W w' := fun W hk => (rmay s _ _ _ W (hrs W hk) (by omega)).mono fun e w' hh => ⟨by
            rcases hh.1 with ⟨_, e1⟩ | ⟨e1, _⟩
            · exact e1
            · exact absurd hm1 e1, hh.2⟩
          have HM1 := Lib.hid hmy1
          clear hmy1
          by_cases hm2 : (SB.mk q1 s.sectors s.journal a s.size s.runs).may
          · have hmy2 : ∀ W, Kept [] wB W → Calls Try.prog 11 #[.agg #[.int .u64 q1, .int .i64 s.sectors, .int .i64 s.journal, .int .i64 a, .int .i64 s.size, .slice p1 s.runs.length c1]] W fun e w' => e = .returned (.bool true) ∧ Kept [] W w' := fun W hk => (rmay (SB.mk q1 s.sectors s.journal a s.size s.runs) _ _ _ W (hrT W hk) (by show s.runs.length ≤ _; omega)).mono fun e w' hh => ⟨by
              rcases hh.1 with ⟨_, e1⟩ | ⟨e1, _⟩
              · exact e1
              · exact absurd hm2 e1, hh.2⟩
            have hq2 : q1 < 18446744073709551616 := by omega
            have hpu1 : ∀ W, Kept [] wB W → Calls Try.prog 10 #[.agg #[.int .u64 s.seq, .int .i64 s.sectors, .int .i64 s.journal, .int .i64 s.used, .int .i64 s.size, .slice p s.runs.length c]] W fun e w' => e = .returned (.tuple #[.string (bs s.sector), .int .i64 0]) ∧ Kept [] W w' := fun W hk => pput s _ _ _ W (hrs W hk) hm1 hq
            have hpu2 : ∀ W, Kept [] wB W → Calls Try.prog 10 #[.agg #[.int .u64 q1, .int .i64 s.sectors, .int .i64 s.journal, .int .i64 a, .int .i64 s.size, .slice p1 s.runs.length c1]] W fun e w' => e = .returned (.tuple #[.string (bs (SB.mk q1 s.sectors s.journal a s.size s.runs).sector), .int .i64 0]) ∧ Kept [] W w' := fun W hk => pput (SB.mk q1 s.sectors s.journal a s.size s.runs) _ _ _ W (hrT W hk) hm2 hq2
            have hX := isSB_sector s hm1 hq
            have hY := isSB_sector (SB.mk q1 s.sectors s.journal a s.size s.runs) hm2 hq2
            have dX := dec_sector s hm1 hq
            have dY := dec_sector (SB.mk q1 s.sectors s.journal a s.size s.runs) hm2 hq2
            have hnx := pick_next hX hY (by rw [dX, dY]; exact HQ1.out)
            have hlX : s.sector.length ≤ 1000000 := by rw [hX.1]; omega
            have hlY : (SB.mk q1 s.sectors s.journal a s.size s.runs).sector.length ≤ 1000000 := by rw [hY.1]; omega
            rw [← bs_of t] at *
            generalize t.data.toList = l at *
            have hll : l.length ≤ 1000000 := by rw [bs_size] at hsz; omega
            have hRG := fun W => rget l W hll
            have hln := fun hn : ¬ isSB l => pick_lone hX hn
            have hl0 := pick_lone hX (fun h : isSB [] => by have := h.1; simp at this)
            rw [dX] at hnx hln hl0
            have HM2 := Lib.hid hmy2
            have HP1 := Lib.hid hpu1
            have HP2 := Lib.hid hpu2
            have HG := Lib.hid hRG
            clear hmy2 hpu1 hpu2 hRG
            generalize hYY : (SB.mk q1 s.sectors s.journal a s.size s.runs).sector = Y at *
            generalize hXX : s.sector = X at *
            clear hYY hXX hm1 hm2 hX hY
            have hsl := fun W => pslot s.seq W hq
            rcases (by omega : s.seq % 2 = 0 ∨ s.seq % 2 = 1) with hpar | hpar
            · have hpk : ∀ W, Calls Try.prog 18 #[.string (bs X), .string (bs Y)] W fun e w' => ∃ pg cg, e = .returned (.tuple #[.agg #[.int .u64 q1, .int .i64 s.sectors, .int .i64 s.journal, .int .i64 a, .int .i64 s.size, .slice pg s.runs.length cg], .int .i64 0]) ∧ RunsIn w' (.slice pg s.runs.length cg) s.runs W.heap.size w'.heap.size ∧ Kept [] W w' := fun W => ppick_of X Y Y (SB.mk q1 s.sectors s.journal a s.size s.runs) W hlX hlY (hnx.1 hpar) dY
              have HPK := Lib.hid hpk
              rw [hpar] at hsl
              clear hpk
              refine (HM1.out _ hkb).mono ?_; rintro e w5 ⟨rfl, k5⟩
              obtain ⟨x0, x1, x2, x3, x4, x5, y0, y1, y2, y3, y4, y5⟩ := HS.out _ k5
              go_wp2_with fail
              refine (HM2.out _ k5).mono ?_; rintro e w6 ⟨rfl, kk6⟩
              have k6 := k5.trans kk6
              obtain ⟨x0, x1, x2, x3, x4, x5, y0, y1, y2, y3, y4, y5⟩ := HS.out _ k6
              go_wp2_with fail
              refine (HP1.out _ k6).mono ?_; rintro e w7 ⟨rfl, kk7⟩
              have k7 := k6.trans kk7
              obtain ⟨x0, x1, x2, x3, x4, x5, y0, y1, y2, y3, y4, y5⟩ := HS.out _ k7
              go_wp2_with fail
              refine (HP2.out _ k7).mono ?_; rintro e w8 ⟨rfl, kk8⟩
              have k8 := k7.trans kk8
              go_wp2_with fail
              refine (HG.out _).mono ?_; rintro e w9 hh
              rcases getSays_any hh with ⟨vg, hig, rfl, hrg, kk9⟩ | ⟨hig, rfl, kk9⟩
              · obtain ⟨pp, cc, rfl⟩ := hrg.shape
                unfold SB.cells
                generalize dec l = d at *
                have k9 := (k8.trans kk9).alloc (.cells #[.int .u64 d.seq, .int .i64 d.sectors, .int .i64 d.journal, .int .i64 d.used, .int .i64 d.size, .slice pp d.runs.length cc] 25)
                have hpm : ∀ W, Calls Try.prog 18 #[.string (bs X), .string ⟨#[]⟩] W fun e w' => ∃ pg cg, e = .returned (.tuple #[.agg #[.int .u64 s.seq, .int .i64 s.sectors, .int .i64 s.journal, .int .i64 s.used, .int .i64 s.size, .slice pg s.runs.length cg], .int .i64 0]) ∧ RunsIn w' (.slice pg s.runs.length cg) s.runs W.heap.size w'.heap.size ∧ Kept [] W w' := fun W => ppick_of X [] X s W hlX (by simp) (hl0.1 hpar) dX
                have HPM := Lib.hid hpm
                clear hpm hh
                obtain ⟨x0, x1, x2, x3, x4, x5, y0, y1, y2, y3, y4, y5⟩ := HS.out _ k9
                clear hnx hln hl0 dX dY hlX hlY
                go_wp2_with fail
                refine (hsl _).mono ?_; rintro e w10 ⟨rfl, rfl⟩
                go_wp2_with fail
                refine (HPK.out _).mono ?_; rintro e w11 ⟨pn, cn, rfl, hrn, kk11⟩
                have on := Own.new w11 #[.int .u64 q1, .int .i64 s.sectors, .int .i64 s.journal, .int .i64 a, .int .i64 s.size, .slice pn s.runs.length cn] 25
                have kk11' := kk11.alloc (.cells #[.int .u64 q1, .int .i64 s.sectors, .int .i64 s.journal, .int .i64 a, .int .i64 s.size, .slice pn s.runs.length cn] 25)
                have k11 := k9.trans kk11'
                have hrn1 := hrn.kept0 ((Kept.refl _ _).alloc (.cells #[.int .u64 q1, .int .i64 s.sectors, .int .i64 s.journal, .int .i64 a, .int .i64 s.size, .slice pn s.runs.length cn] 25))
                clear hrn kk11
                go_wp2_with fail
                refine (HPM.out _).mono ?_; rintro e w12 ⟨pm, cm, rfl, hrm, kk12⟩
                have om := Own.new w12 #[.int .u64 s.seq, .int .i64 s.sectors, .int .i64 s.journal, .int .i64 s.used, .int .i64 s.size, .slice pm s.runs.length cm] 25
                have kk12' := kk12.alloc (.cells #[.int .u64 s.seq, .int .i64 s.sectors, .int .i64 s.journal, .int .i64 s.used, .int .i64 s.size, .slice pm s.runs.length cm] 25)
                have k12 := k11.trans kk12'
                have hrm1 := hrm.kept0 ((Kept.refl _ _).alloc (.cells #[.int .u64 s.seq, .int .i64 s.sectors, .int .i64 s.journal, .int .i64 s.used, .int .i64 s.size, .slice pm s.runs.length cm] 25))
                have hrn2 := hrn1.kept0 kk12'
                have on2 := kk12'.own on (by simp)
                clear hrm kk12 hrn1 on
                obtain ⟨x0, x1, x2, x3, x4, x5, y0, y1, y2, y3, y4, y5⟩ := HS.out _ k12
                obtain ⟨n0, n1, n2, n3, n4, n5⟩ := on2.c6
                obtain ⟨m0, m1, m2, m3, m4, m5⟩ := om.c6
                go_wp2_with fail
                refine (HA2.out _ _ _ _ _ _ _ hrn2 (HRT.out _ k12)).mono ?_; rintro e w13 ⟨rfl, kk13⟩
                have k13 := k12.trans kk13
                have hrm2 := hrm1.kept0 kk13
                obtain ⟨x0, x1, x2, x3, x4, x5, y0, y1, y2, y3, y4, y5⟩ := HS.out _ k13
                obtain ⟨m0, m1, m2, m3, m4, m5⟩ := (kk13.own om (by simp)).c6
                go_wp2_with fail
                refine (HA3.out _ _ _ _ _ _ _ hrm2 (HRS.out _ k13)).mono ?_; rintro e w14 ⟨rfl, kk14⟩
                go_wp2_with fail
                refine (awakeS _).mono ?_; rintro e w15 ⟨rfl, kz⟩
                go_wp2_with fail
                go_ret
                exact ⟨rfl, HB.out _ ((k13.trans kk14).trans kz)⟩
              · unfold SB.cells zeroSB
                have k9 := (k8.trans kk9).alloc (.cells #[.int .u64 0, .int .i64 0, .int .i64 0, .int .i64 0, .int .i64 0, .slice none 0 0] 25)
                have hpm : ∀ W, Calls Try.prog 18 #[.string (bs X), .string (bs l)] W fun e w' => ∃ pg cg, e = .returned (.tuple #[.agg #[.int .u64 s.seq, .int .i64 s.sectors, .int .i64 s.journal, .int .i64 s.used, .int .i64 s.size, .slice pg s.runs.length cg], .int .i64 0]) ∧ RunsIn w' (.slice pg s.runs.length cg) s.runs W.heap.size w'.heap.size ∧ Kept [] W w' := fun W => ppick_of X l X s W hlX hll ((hln hig).1 hpar) dX
                have HPM := Lib.hid hpm
                clear hpm hh
                obtain ⟨x0, x1, x2, x3, x4, x5, y0, y1, y2, y3, y4, y5⟩ := HS.out _ k9
                clear hnx hln hl0 dX dY hlX hlY
                go_wp2_with fail
                refine (hsl _).mono ?_; rintro e w10 ⟨rfl, rfl⟩
                go_wp2_with fail
                refine (HPK.out _).mono ?_; rintro e w11 ⟨pn, cn, rfl, hrn, kk11⟩
                have on := Own.new w11 #[.int .u64 q1, .int .i64 s.sectors, .int .i64 s.journal, .int .i64 a, .int .i64 s.size, .slice pn s.runs.length cn] 25
                have kk11' := kk11.alloc (.cells #[.int .u64 q1, .int .i64 s.sectors, .int .i64 s.journal, .int .i64 a, .int .i64 s.size, .slice pn s.runs.length cn] 25)
                have k11 := k9.trans kk11'
                have hrn1 := hrn.kept0 ((Kept.refl _ _).alloc (.cells #[.int .u64 q1, .int .i64 s.sectors, .int .i64 s.journal, .int .i64 a, .int .i64 s.size, .slice pn s.runs.length cn] 25))
                clear hrn kk11
                go_wp2_with fail
                refine (HPM.out _).mono ?_; rintro e w12 ⟨pm, cm, rfl, hrm, kk12⟩
                have om := Own.new w12 #[.int .u64 s.seq, .int .i64 s.sectors, .int .i64 s.journal, .int .i64 s.used, .int .i64 s.size, .slice pm s.runs.length cm] 25
                have kk12' := kk12.alloc (.cells #[.int .u64 s.seq, .int .i64 s.sectors, .int .i64 s.journal, .int .i64 s.used, .int .i64 s.size, .slice pm s.runs.length cm] 25)
                have k12 := k11.trans kk12'
                have hrm1 := hrm.kept0 ((Kept.refl _ _).alloc (.cells #[.int .u64 s.seq, .int .i64 s.sectors, .int .i64 s.journal, .int .i64 s.used, .int .i64 s.size, .slice pm s.runs.length cm] 25))
                have hrn2 := hrn1.kept0 kk12'
                have on2 := kk12'.own on (by simp)
                clear hrm kk12 hrn1 on
                obtain ⟨x0, x1, x2, x3, x4, x5, y0, y1, y2, y3, y4, y5⟩ := HS.out _ k12
                obtain ⟨n0, n1, n2, n3, n4, n5⟩ := on2.c6
                obtain ⟨m0, m1, m2, m3, m4, m5⟩ := om.c6
                go_wp2_with fail
                refine (HA2.out _ _ _ _ _ _ _ hrn2 (HRT.out _ k12)).mono ?_; rintro e w13 ⟨rfl, kk13⟩
                have k13 := k12.trans kk13
                have hrm2 := hrm1.kept0 kk13
                obtain ⟨x0, x1, x2, x3, x4, x5, y0, y1, y2, y3, y4, y5⟩ := HS.out _ k13
                obtain ⟨m0, m1, m2, m3, m4, m5⟩ := (kk13.own om (by simp)).c6
                go_wp2_with fail
                refine (HA3.out _ _ _ _ _ _ _ hrm2 (HRS.out _ k13)).mono ?_; rintro e w14 ⟨rfl, kk14⟩
                go_wp2_with fail
                refine (awakeS _).mono ?_; rintro e w15 ⟨rfl, kz⟩
                go_wp2_with fail
                go_ret
                exact ⟨rfl, HB.out _ ((k13.trans kk14).trans kz)⟩
            · have hpk : ∀ W, Calls Try.prog 18 #[.string (bs Y), .string (bs X)] W fun e w' => ∃ pg cg, e = .returned (.tuple #[.agg #[.int .u64 q1, .int .i64 s.sectors, .int .i64 s.journal, .int .i64 a, .int .i64 s.size, .slice pg s.runs.length cg], .int .i64 0]) ∧ RunsIn w' (.slice pg s.runs.length cg) s.runs W.heap.size w'.heap.size ∧ Kept [] W w' := fun W => ppick_of Y X Y (SB.mk q1 s.sectors s.journal a s.size s.runs) W hlY hlX (hnx.2 hpar) dY
              have HPK := Lib.hid hpk
              rw [hpar] at hsl
              clear hpk
              refine (HM1.out _ hkb).mono ?_; rintro e w5 ⟨rfl, k5⟩
              obtain ⟨x0, x1, x2, x3, x4, x5, y0, y1, y2, y3, y4, y5⟩ := HS.out _ k5
              go_wp2_with fail
              refine (HM2.out _ k5).mono ?_; rintro e w6 ⟨rfl, kk6⟩
              have k6 := k5.trans kk6
              obtain ⟨x0, x1, x2, x3, x4, x5, y0, y1, y2, y3, y4, y5⟩ := HS.out _ k6
              go_wp2_with fail
              refine (HP1.out _ k6).mono ?_; rintro e w7 ⟨rfl, kk7⟩
              have k7 := k6.trans kk7
              obtain ⟨x0, x1, x2, x3, x4, x5, y0, y1, y2, y3, y4, y5⟩ := HS.out _ k7
              go_wp2_with fail
              refine (HP2.out _ k7).mono ?_; rintro e w8 ⟨rfl, kk8⟩
              have k8 := k7.trans kk8
              go_wp2_with fail
              refine (HG.out _).mono ?_; rintro e w9 hh
              rcases getSays_any hh with ⟨vg, hig, rfl, hrg, kk9⟩ | ⟨hig, rfl, kk9⟩
              · obtain ⟨pp, cc, rfl⟩ := hrg.shape
                unfold SB.cells
                generalize dec l = d at *
                have k9 := (k8.trans kk9).alloc (.cells #[.int .u64 d.seq, .int .i64 d.sectors, .int .i64 d.journal, .int .i64 d.used, .int .i64 d.size, .slice pp d.runs.length cc] 25)
                have hpm : ∀ W, Calls Try.prog 18 #[.string ⟨#[]⟩, .string (bs X)] W fun e w' => ∃ pg cg, e = .returned (.tuple #[.agg #[.int .u64 s.seq, .int .i64 s.sectors, .int .i64 s.journal, .int .i64 s.used, .int .i64 s.size, .slice pg s.runs.length cg], .int .i64 0]) ∧ RunsIn w' (.slice pg s.runs.length cg) s.runs W.heap.size w'.heap.size ∧ Kept [] W w' := fun W => ppick_of [] X X s W (by simp) hlX (hl0.2 hpar) dX
                have HPM := Lib.hid hpm
                clear hpm hh
                obtain ⟨x0, x1, x2, x3, x4, x5, y0, y1, y2, y3, y4, y5⟩ := HS.out _ k9
                clear hnx hln hl0 dX dY hlX hlY
                go_wp2_with fail
                refine (hsl _).mono ?_; rintro e w10 ⟨rfl, rfl⟩
                go_wp2_with fail
                refine (HPK.out _).mono ?_; rintro e w11 ⟨pn, cn, rfl, hrn, kk11⟩
                have on := Own.new w11 #[.int .u64 q1, .int .i64 s.sectors, .int .i64 s.journal, .int .i64 a, .int .i64 s.size, .slice pn s.runs.length cn] 25
                have kk11' := kk11.alloc (.cells #[.int .u64 q1, .int .i64 s.sectors, .int .i64 s.journal, .int .i64 a, .int .i64 s.size, .slice pn s.runs.length cn] 25)
                have k11 := k9.trans kk11'
                have hrn1 := hrn.kept0 ((Kept.refl _ _).alloc (.cells #[.int .u64 q1, .int .i64 s.sectors, .int .i64 s.journal, .int .i64 a, .int .i64 s.size, .slice pn s.runs.length cn] 25))
                clear hrn kk11
                go_wp2_with fail
                refine (HPM.out _).mono ?_; rintro e w12 ⟨pm, cm, rfl, hrm, kk12⟩
                have om := Own.new w12 #[.int .u64 s.seq, .int .i64 s.sectors, .int .i64 s.journal, .int .i64 s.used, .int .i64 s.size, .slice pm s.runs.length cm] 25
                have kk12' := kk12.alloc (.cells #[.int .u64 s.seq, .int .i64 s.sectors, .int .i64 s.journal, .int .i64 s.used, .int .i64 s.size, .slice pm s.runs.length cm] 25)
                have k12 := k11.trans kk12'
                have hrm1 := hrm.kept0 ((Kept.refl _ _).alloc (.cells #[.int .u64 s.seq, .int .i64 s.sectors, .int .i64 s.journal, .int .i64 s.used, .int .i64 s.size, .slice pm s.runs.length cm] 25))
                have hrn2 := hrn1.kept0 kk12'
                have on2 := kk12'.own on (by simp)
                clear hrm kk12 hrn1 on
                obtain ⟨x0, x1, x2, x3, x4, x5, y0, y1, y2, y3, y4, y5⟩ := HS.out _ k12
                obtain ⟨n0, n1, n2, n3, n4, n5⟩ := on2.c6
                obtain ⟨m0, m1, m2, m3, m4, m5⟩ := om.c6
                go_wp2_with fail
                refine (HA2.out _ _ _ _ _ _ _ hrn2 (HRT.out _ k12)).mono ?_; rintro e w13 ⟨rfl, kk13⟩
                have k13 := k12.trans kk13
                have hrm2 := hrm1.kept0 kk13
                obtain ⟨x0, x1, x2, x3, x4, x5, y0, y1, y2, y3, y4, y5⟩ := HS.out _ k13
                obtain ⟨m0, m1, m2, m3, m4, m5⟩ := (kk13.own om (by simp)).c6
                go_wp2_with fail
                refine (HA3.out _ _ _ _ _ _ _ hrm2 (HRS.out _ k13)).mono ?_; rintro e w14 ⟨rfl, kk14⟩
                go_wp2_with fail
                refine (awakeS _).mono ?_; rintro e w15 ⟨rfl, kz⟩
                go_wp2_with fail
                go_ret
                exact ⟨rfl, HB.out _ ((k13.trans kk14).trans kz)⟩
              · unfold SB.cells zeroSB
                have k9 := (k8.trans kk9).alloc (.cells #[.int .u64 0, .int .i64 0, .int .i64 0, .int .i64 0, .int .i64 0, .slice none 0 0] 25)
                have hpm : ∀ W, Calls Try.prog 18 #[.string (bs l), .string (bs X)] W fun e w' => ∃ pg cg, e = .returned (.tuple #[.agg #[.int .u64 s.seq, .int .i64 s.sectors, .int .i64 s.journal, .int .i64 s.used, .int .i64 s.size, .slice pg s.runs.length cg], .int .i64 0]) ∧ RunsIn w' (.slice pg s.runs.length cg) s.runs W.heap.size w'.heap.size ∧ Kept [] W w' := fun W => ppick_of l X X s W hll hlX ((hln hig).2 hpar) dX
                have HPM := Lib.hid hpm
                clear hpm hh
                obtain ⟨x0, x1, x2, x3, x4, x5, y0, y1, y2, y3, y4, y5⟩ := HS.out _ k9
                clear hnx hln hl0 dX dY hlX hlY
                go_wp2_with fail
                refine (hsl _).mono ?_; rintro e w10 ⟨rfl, rfl⟩
                go_wp2_with fail
                refine (HPK.out _).mono ?_; rintro e w11 ⟨pn, cn, rfl, hrn, kk11⟩
                have on := Own.new w11 #[.int .u64 q1, .int .i64 s.sectors, .int .i64 s.journal, .int .i64 a, .int .i64 s.size, .slice pn s.runs.length cn] 25
                have kk11' := kk11.alloc (.cells #[.int .u64 q1, .int .i64 s.sectors, .int .i64 s.journal, .int .i64 a, .int .i64 s.size, .slice pn s.runs.length cn] 25)
                have k11 := k9.trans kk11'
                have hrn1 := hrn.kept0 ((Kept.refl _ _).alloc (.cells #[.int .u64 q1, .int .i64 s.sectors, .int .i64 s.journal, .int .i64 a, .int .i64 s.size, .slice pn s.runs.length cn] 25))
                clear hrn kk11
                go_wp2_with fail
                refine (HPM.out _).mono ?_; rintro e w12 ⟨pm, cm, rfl, hrm, kk12⟩
                have om := Own.new w12 #[.int .u64 s.seq, .int .i64 s.sectors, .int .i64 s.journal, .int .i64 s.used, .int .i64 s.size, .slice pm s.runs.length cm] 25
                have kk12' := kk12.alloc (.cells #[.int .u64 s.seq, .int .i64 s.sectors, .int .i64 s.journal, .int .i64 s.used, .int .i64 s.size, .slice pm s.runs.length cm] 25)
                have k12 := k11.trans kk12'
                have hrm1 := hrm.kept0 ((Kept.refl _ _).alloc (.cells #[.int .u64 s.seq, .int .i64 s.sectors, .int .i64 s.journal, .int .i64 s.used, .int .i64 s.size, .slice pm s.runs.length cm] 25))
                have hrn2 := hrn1.kept0 kk12'
                have on2 := kk12'.own on (by simp)
                clear hrm kk12 hrn1 on
                obtain ⟨x0, x1, x2, x3, x4, x5, y0, y1, y2, y3, y4, y5⟩ := HS.out _ k12
                obtain ⟨n0, n1, n2, n3, n4, n5⟩ := on2.c6
                obtain ⟨m0, m1, m2, m3, m4, m5⟩ := om.c6
                go_wp2_with fail
                refine (HA2.out _ _ _ _ _ _ _ hrn2 (HRT.out _ k12)).mono ?_; rintro e w13 ⟨rfl, kk13⟩
                have k13 := k12.trans kk13
                have hrm2 := hrm1.kept0 kk13
                obtain ⟨x0, x1, x2, x3, x4, x5, y0, y1, y2, y3, y4, y5⟩ := HS.out _ k13
                obtain ⟨m0, m1, m2, m3, m4, m5⟩ := (kk13.own om (by simp)).c6
                go_wp2_with fail
                refine (HA3.out _ _ _ _ _ _ _ hrm2 (HRS.out _ k13)).mono ?_; rintro e w14 ⟨rfl, kk14⟩
                go_wp2_with fail
                refine (awakeS _).mono ?_; rintro e w15 ⟨rfl, kz⟩
                go_wp2_with fail
                go_ret
                exact ⟨rfl, HB.out _ ((k13.trans kk14).trans kz)⟩
          · have hmy2 : ∀ W, Kept [] wB W → Calls Try.prog 11 #[.agg #[.int .u64 q1, .int .i64 s.sectors, .int .i64 s.journal, .int .i64 a, .int .i64 s.size, .slice p1 s.runs.length c1]] W fun e w' => e = .returned (.bool false) ∧ Kept [] W w' := fun W hk => (rmay (SB.mk q1 s.sectors s.journal a s.size s.runs) _ _ _ W (hrT W hk) (by show s.runs.length ≤ _; omega)).mono fun e w' hh => ⟨by
              rcases hh.1 with ⟨e1, _⟩ | ⟨_, e1⟩
              · exact absurd e1 hm2
              · exact e1, hh.2⟩
            clear hm1 hm2 hrs hrT
            refine (HM1.out _ hkb).mono ?_; rintro e w5 ⟨rfl, k5⟩
            obtain ⟨x0, x1, x2, x3, x4, x5, y0, y1, y2, y3, y4, y5⟩ := HS.out _ k5
            go_wp2_with fail
            refine (hmy2 _ k5).mono ?_; rintro e w6 ⟨rfl, k6⟩
            go_wp2_with fail
            refine (awakeS _).mono ?_; rintro e w9 ⟨rfl, kz⟩
            go_wp2_with fail
            go_ret
            exact ⟨rfl, HB.out _ ((k5.trans k6).trans kz)⟩
        · have hmy1 : ∀ W, Kept [] wB W → Calls Try.prog 11 #[.agg #[.int .u64 s.seq, .int .i64 s.sectors, .int .i64 s.journal, .int .i64 s.used, .int .i64 s.size, .slice p s.runs.length c]] W fun e w' => e = .returned (.bool false) ∧ Kept [] W w' := fun W hk => (rmay s _ _ _ W (hrs W hk) (by omega)).mono fun e w' hh => ⟨by
            rcases hh.1 with ⟨e1, _⟩ | ⟨_, e1⟩
            · exact absurd e1 hm1
            · exact e1, hh.2⟩
          clear hm1 hrs hrT
          refine (hmy1 _ hkb).mono ?_; rintro e w5 ⟨rfl, k5⟩
          go_wp2_with fail
          refine (awakeS _).mono ?_; rintro e w9 ⟨rfl, kz⟩
          go_wp2_with fail
          go_ret
          exact ⟨rfl, HB.out _ (k5.trans kz)⟩
      · go_enter Try.func6, Try.ntmps6
        go_wp2_with fail
        refine (HF.out _ hk0).mono ?_; rintro e w1 ⟨rfl, k1⟩
        obtain ⟨x0, x1, x2, x3, x4, x5⟩ := (k1.own o0 (by simp)).c6
        have hK1 := hk0.trans k1
        go_wp2_with fail
        refine (awakeS _).mono ?_; rintro e w9 ⟨rfl, kz⟩
        go_wp2_with fail
        go_ret
        exact ⟨rfl, (hK1.trans kz).below⟩
    · go_enter Try.func6, Try.ntmps6
      go_wp2_with fail
      refine (HF.out _ hk0).mono ?_; rintro e w1 ⟨rfl, k1⟩
      have hK1 := hk0.trans k1
      go_wp2_with fail
      refine (awakeS _).mono ?_; rintro e w9 ⟨rfl, kz⟩
      go_wp2_with fail
      go_ret
      exact ⟨rfl, (hK1.trans kz).below⟩
  · have hf3 := HF.out
    simp only [decide_eq_false hl] at hf3
    have HF3 := Lib.hid hf3
    clear hf3
    go_enter Try.func6, Try.ntmps6
    go_wp2_with fail
    refine (HF3.out _ hk0).mono ?_; rintro e w1 ⟨rfl, k1⟩
    have hK1 := hk0.trans k1
    go_wp2_with fail
    refine (awakeS _).mono ?_; rintro e w9 ⟨rfl, kz⟩
    go_wp2_with fail
    go_ret
    exact ⟨rfl, (hK1.trans kz).below⟩
end Go.Proofs.Ytpdmnjcklpklnaa

