/- -/
import Derived.Test.YtdkimcnlhmhpgaaGreatH37
import Derived.Test.YtdkimcnlhmhpgaaGreatH39
import Derived.Deep.MidRow
set_option linter.unusedVariables false
set_option linter.unusedSimpArgs false
namespace Go.Proofs.YtdkimcnlhmhpgaaGreat
open Go.RowKit
theorem uappendf (B : Nat) (x0 x1 x2 x3 x4 : Value) (s : List UInt8) (w : World) :
  Calls Tryz.prog 50 #[.pointer (some ⟨B, 0, none⟩), .agg #[x0, x1, x2, x3, x4], .string (bs s)] w fun e w' => e = .returned (.func (.func 107) #[] #[.pointer (some ⟨w.heap.size, 0, none⟩), .pointer (some ⟨w.heap.size + 2, 0, none⟩), .pointer (some ⟨w.heap.size + 1, 0, none⟩)]) ∧ ((w.alloc (.cells #[.pointer (some ⟨B, 0, none⟩)] 27)).alloc (.cells #[x0, x1, x2, x3, x4] 52)).alloc (.cells #[.string (bs s)] 9) = w' := by
 go_enter Tryz.func50, Tryz.ntmps50
 go_wp2_with fail
 go_ret
 exact ⟨rfl, rfl⟩
theorem usettlef (B : Nat) (x0 x1 x2 x3 x4 : Value) (rp : Option Addr) (rn rc : Nat) (s : List UInt8) (w : World) :
  Calls Tryz.prog 55 #[.pointer (some ⟨B, 0, none⟩), .agg #[x0, x1, x2, x3, x4], .string (bs s), .slice rp rn rc] w fun e w' => e = .returned (.func (.func 113) #[] #[.pointer (some ⟨w.heap.size, 0, none⟩), .pointer (some ⟨w.heap.size + 2, 0, none⟩), .pointer (some ⟨w.heap.size + 3, 0, none⟩), .pointer (some ⟨w.heap.size + 1, 0, none⟩)]) ∧ (((w.alloc (.cells #[.pointer (some ⟨B, 0, none⟩)] 27)).alloc (.cells #[x0, x1, x2, x3, x4] 52)).alloc (.cells #[.string (bs s)] 9)).alloc (.cells #[.slice rp rn rc] 56) = w' := by
 go_enter Tryz.func55, Tryz.ntmps55
 go_wp2_with fail
 go_ret
 exact ⟨rfl, rfl⟩
theorem DiskAt.keepT {w w' : World} {b sb mb lo B : Nat} {d : DK} {cs : Array Value} {t : TypeId} (h : DiskAt w b sb mb lo d) (k : Kept [B] w w') (hB : OffD [] w b sb mb B) (o : Own w B cs t) (ht : 206 ≠ t) : DiskAt w' b sb mb lo d := by
 obtain ⟨wv, n, ob, os, hwr, hm, hn, h2, h3, h4, h5, h6, r⟩ := h
 obtain ⟨_, n1, n2, n3, _⟩ := hB
 exact ⟨wv, n, k.own ob (by simp only [List.mem_singleton]; exact fun e => n1 e.symm), k.own os (by simp only [List.mem_singleton]; exact fun e => n2 e.symm), ownsRow_keptO hwr k o ht, hm.kept k (by simp only [List.mem_singleton]; exact fun e => n3 e.symm), hn, h2, h3, h4, h5, Nat.le_trans h6 k.size, r⟩
theorem SD.keptS {S T : List Nat} {w w' : World} {b sb mb : Nat} (k : Kept S w w') (hb : b < w.heap.size) (hS : b ∉ S) : SD T w' b sb mb = SD T w b sb mb := by
 funext g
 unfold SD OffD
 rw [WB.of_cell (k.cell (a := ⟨b, 1, none⟩) hb hS)]
theorem Own.s6d {w : World} {b : Nat} {x0 x1 x2 x3 x4 x5 : Value} {t : TypeId} (h : Own w b #[x0, x1, x2, x3, x4, x5] t) (u : Value) : Own (w.setCell ⟨b, 3, none⟩ u) b #[x0, x1, x2, u, x4, x5] t := h.set 3 u
theorem CatO.shapes {T : List Nat} {w : World} {b sb mb : Nat} {x y cb cm cn : Value} {c : JCat} (h : CatO T w b sb mb (.agg #[x, y, cb, cm, cn]) c) : (∃ p n d, cb = .slice p n d) ∧ (∃ p n d, cm = .slice p n d) ∧ (∃ p n d, cn = .slice p n d) := by
 obtain ⟨va, vb, vc, e, i1, i2, i3, _⟩ := h
 injection e with e
 injection e with e
 simp only [List.cons.injEq, and_true] at e
 obtain ⟨_, _, rfl, rfl, rfl⟩ := e
 obtain ⟨p1, c1, rfl⟩ := i1.plain.shape
 obtain ⟨p2, c2, rfl⟩ := i2.plain.shape
 obtain ⟨p3, c3, rfl⟩ := i3.plain.shape
 exact ⟨⟨_, _, _, rfl⟩, ⟨_, _, _, rfl⟩, ⟨_, _, _, rfl⟩⟩
theorem Own.there {w : World} {b : Nat} {cs : Array Value} {t : TypeId} (h : Own w b cs t) (o n : Nat) (hn : o + n ≤ cs.size) : w.there b o n := fun j hj => ⟨by rw [h.cell (o + j) (by omega)]; rfl, h.free _⟩
theorem step_store_mid {P : Program} {ops : Array Oper} {o : Oper} {a : Act} {w : World} {K : Act → World → Prop} {Q : Exit → Act → World → Prop} {E : Prop}
  (hg : o.guard = none) (ty : TypeId) (x y : Operand) (ho : o.op = .store ty x y) (b f : Nat) (cells : Array Value) (hx : a.eval x = .pointer (some ⟨b, f, none⟩)) (hy : a.eval y = .agg cells)
  (ht : w.there b f cells.size) (hi : (P.info? ty).map (·.size) = some cells.size) (h1 : cells.all (·.oneCell') = true) (hK : K (a.put o.dst undef) (w.setCells b f cells.toList)) :
  if Region.wanted o (yielded ops a.tmps) = true then Oper.wp P o a w K Q else E := by
 have hw : Region.wanted o (yielded ops a.tmps) = true := by simp [Region.wanted, hg]
 rw [if_pos hw]
 exact wp_store_mid ty x y ho b f cells hx hy ht hi h1 hK
theorem setCells_cat (w : World) (B : Nat) (a1 a2 a3 a4 a5 : Value) : w.setCells B 7 (#[a1, a2, a3, a4, a5] : Array Value).toList = (((((w.setCell ⟨B, 7, none⟩ a1).setCell ⟨B, 8, none⟩ a2).setCell ⟨B, 9, none⟩ a3).setCell ⟨B, 10, none⟩ a4).setCell ⟨B, 11, none⟩ a5) := rfl
theorem setCells_sup (w : World) (B : Nat) (a1 a2 a3 a4 a5 a6 : Value) : w.setCells B 1 (#[a1, a2, a3, a4, a5, a6] : Array Value).toList = ((((((w.setCell ⟨B, 1, none⟩ a1).setCell ⟨B, 2, none⟩ a2).setCell ⟨B, 3, none⟩ a3).setCell ⟨B, 4, none⟩ a4).setCell ⟨B, 5, none⟩ a5).setCell ⟨B, 6, none⟩ a6) := rfl
theorem Own.scat {w : World} {b : Nat} {x0 x1 x2 x3 x4 x5 x6 x7 x8 x9 x10 x11 x12 : Value} {t : TypeId} (h : Own w b #[x0, x1, x2, x3, x4, x5, x6, x7, x8, x9, x10, x11, x12] t) (u7 u8 u9 u10 u11 : Value) : Own (((((w.setCell ⟨b, 7, none⟩ u7).setCell ⟨b, 8, none⟩ u8).setCell ⟨b, 9, none⟩ u9).setCell ⟨b, 10, none⟩ u10).setCell ⟨b, 11, none⟩ u11) b #[x0, x1, x2, x3, x4, x5, x6, u7, u8, u9, u10, u11, x12] t := by
 have := (((((h.set 7 u7).set 8 u8).set 9 u9).set 10 u10).set 11 u11)
 simpa using this
theorem Own.ssup {w : World} {b : Nat} {x0 x1 x2 x3 x4 x5 x6 x7 x8 x9 x10 x11 x12 : Value} {t : TypeId} (h : Own w b #[x0, x1, x2, x3, x4, x5, x6, x7, x8, x9, x10, x11, x12] t) (u1 u2 u3 u4 u5 u6 : Value) : Own ((((((w.setCell ⟨b, 1, none⟩ u1).setCell ⟨b, 2, none⟩ u2).setCell ⟨b, 3, none⟩ u3).setCell ⟨b, 4, none⟩ u4).setCell ⟨b, 5, none⟩ u5).setCell ⟨b, 6, none⟩ u6) b #[x0, u1, u2, u3, u4, u5, u6, x7, x8, x9, x10, x11, x12] t := by
 have := ((((((h.set 1 u1).set 2 u2).set 3 u3).set 4 u4).set 5 u5).set 6 u6)
 simpa using this
theorem append_ok {d : DK} {j u : Int} {s : List UInt8} (h : (appendD d j u s).2 = 0) : 0 ≤ u ∧ u + s.length ≤ j * 128 ∧ appendN d j u s = u + s.length := by
 refine ⟨?_, ?_, by unfold appendN; rw [if_pos h]⟩
 all_goals
  unfold appendD at h
  split at h
  ·cases h
  ·rename_i hf
   have hf : fitCode d.stand.length j u = 0 := by simpa using hf
   obtain ⟨f1, f2, f3, f4⟩ := fit_ok hf
   split at h
   ·cases h
   ·omega
theorem uflay2 {T : List Nat} {w : World} {b sb mb lo : Nat} {d : DK} (s : SB) (rv : Value) (hD : DA w b sb mb lo d) (hT : ∀ x ∈ T, x < w.heap.size) (hr : RunsO T w b sb mb rv s.runs)
  (hm : s.may) (hq : s.seq < 18446744073709551616) (ho : d.ops ≤ 80000) (hw : d.waits.length ≤ 8000) (W : World) (k : Kept [] w W) (n gS gD : Nat) (hn : w.heap.size ≤ n) (hS : w.heap.size ≤ gS) (hDD : w.heap.size ≤ gD)
  (on : Own W n #[.func (.func 39) #[.pointer (some ⟨b, 0, none⟩)] #[], .func (.func 92) #[] #[.pointer (some ⟨gS, 0, none⟩), .pointer (some ⟨gD, 0, none⟩)]] 42)
  (oS : Own W gS (s.cells rv) 58) (od : Own W gD #[.pointer (some ⟨b, 0, none⟩)] 23) :
  Calls Tryz.prog 37 #[.slice (some ⟨n, 0, none⟩) 2 2] W fun e w' => e = .returned (.int .i64 (chainD [stepF, layD s] d).2) ∧ DA w' b sb mb lo (chainD [stepF, layD s] d).1 ∧ PK T b sb mb W w' :=
 uflay n gS gD s rv (hD.keep0 k) (fun x hx => Nat.lt_of_lt_of_le (hT x hx) k.size) on oS od (hD.off_new hT k hn) (hD.off_new hT k hS) (hD.off_new hT k hDD) (hr.pk (k.pk0 hD.b_lt)) hm hq ho hw
set_option maxRecDepth 100000 in
set_option maxHeartbeats 8000000 in
theorem uappend1 {T : List Nat} (gv gt gc : Nat) (c : JCat) (cb cm cn : Value) (s : List UInt8) {w : World} {B b sb mb lo : Nat} {v : VS} (hV : VolAt T w B b sb mb lo v)
  (hc : ∀ W, PK [B] b sb mb w W → W.cell? ⟨gv, 0, none⟩ = some (.pointer (some ⟨B, 0, none⟩)) ∧ W.cell? ⟨gt, 0, none⟩ = some (.string (bs s)) ∧ W.cell? ⟨gc, 0, none⟩ = some (.int .u32 c.nextBox) ∧ W.cell? ⟨gc, 1, none⟩ = some (.int .u32 c.nextMan) ∧ W.cell? ⟨gc, 2, none⟩ = some cb ∧ W.cell? ⟨gc, 3, none⟩ = some cm ∧ W.cell? ⟨gc, 4, none⟩ = some cn)
  (hcat : CatO T w b sb mb (.agg #[.int .u32 c.nextBox, .int .u32 c.nextMan, cb, cm, cn]) c)
  (hm : v.s.may) (hq : v.s.seq ≤ 1000000) (hs : s.length ≤ 4000) (ho : v.d.ops ≤ 40000) (hw : v.d.waits.length ≤ 3000) :
  Calls Tryz.prog 107 #[.pointer (some ⟨gv, 0, none⟩), .pointer (some ⟨gt, 0, none⟩), .pointer (some ⟨gc, 0, none⟩)] w fun e w' => e = .returned (.int .i64 (appendX c s v).2) ∧ VolAt T w' B b sb mb lo (appendX c s v).1 ∧ PK [B] b sb mb w w' := by
 have hsm := hm.1
 obtain ⟨⟨q1, m1, d1, rfl⟩, ⟨q2, m2, d2, rfl⟩, ⟨q3, m3, d3, rfl⟩⟩ := CatO.shapes hcat
 obtain ⟨sv, vb, vm, vn, o, hr, hcat0⟩ := hV.vol
 obtain ⟨x0, x1, x2, x3, x4, x5, x6, x7, x8, x9, x10, x11, x12⟩ := o.c13
 obtain ⟨⟨lo1, hi1, hrun⟩, hoff⟩ := hr
 have HN : Hid (∀ W, Kept [] w W → Calls Tryz.prog 108 #[.agg (v.s.cells sv)] W fun e w' => (∃ v', e = .returned (.agg (SB.cells { v.s with seq := v.s.seq + 1 } v')) ∧ RunsIn w' v' v.s.runs W.heap.size w'.heap.size) ∧ Kept [] W w') := Lib.hid (fun W k => pnext v.s sv lo1 hi1 W (hrun.kept0 k) (by have := hsm; unfold SB.numOk at this; omega) (by omega))
 unfold SB.cells at HN
 simp only at HN
 clear x7 x8 x9 x10 x11 x12
 obtain ⟨y0, y1, y2, y3, y4, y5, y6⟩ := hc w (PK.refl _ _ _ _ _)
 obtain ⟨p1, c1, rfl⟩ := hrun.shape
 clear hrun hoff hcat0 o
 go_enter Tryz.func107, Tryz.ntmps107
 go_wp2_with fail
 refine (HN.out _ (Kept.refl _ _)).mono ?_; rintro e w2 ⟨⟨v', rfl, hr2⟩, k2⟩
 obtain ⟨p2, c2, rfl⟩ := hr2.shape
 have hk3 : Kept [] w (w2.alloc (.cells #[.int .u64 (↑v.s.seq + 1), .int .i64 v.s.sectors, .int .i64 v.s.journal, .int .i64 v.s.used, .int .i64 v.s.size, .slice p2 v.s.runs.length c2] 58)) := k2.alloc _
 have oS3 := Own.new w2 #[.int .u64 (↑v.s.seq + 1), .int .i64 v.s.sectors, .int .i64 v.s.journal, .int .i64 v.s.used, .int .i64 v.s.size, .slice p2 v.s.runs.length c2] 58
 have hr3 : RunsIn (w2.alloc (.cells #[.int .u64 (↑v.s.seq + 1), .int .i64 v.s.sectors, .int .i64 v.s.journal, .int .i64 v.s.used, .int .i64 v.s.size, .slice p2 v.s.runs.length c2] 58)) (.slice p2 v.s.runs.length c2) v.s.runs w.heap.size w2.heap.size := hr2.kept0 ((Kept.refl [] w2).alloc _)
 have hgS : w.heap.size ≤ w2.heap.size := k2.size
 have hX : ∀ N, appendN v.d v.s.journal v.s.used s = N → ((appendD v.d v.s.journal v.s.used s).2 ≠ 0 → appendX c s v = (⟨(appendD v.d v.s.journal v.s.used s).1, v.s, v.c, v.dead⟩, (appendD v.d v.s.journal v.s.used s).2)) ∧ ((appendD v.d v.s.journal v.s.used s).2 = 0 → (nextS v.s N).may ∧ appendX c s v = if (chainD [stepF, layD (nextS v.s N)] (appendD v.d v.s.journal v.s.used s).1).2 = 0 then (⟨(chainD [stepF, layD (nextS v.s N)] (appendD v.d v.s.journal v.s.used s).1).1, nextS v.s N, c, v.dead⟩, 0) else (⟨(chainD [stepF, layD (nextS v.s N)] (appendD v.d v.s.journal v.s.used s).1).1, v.s, v.c, v.dead⟩, (chainD [stepF, layD (nextS v.s N)] (appendD v.d v.s.journal v.s.used s).1).2)) := by
  rintro N rfl
  refine ⟨fun h => by unfold appendX; rw [if_neg h], fun h => ?_⟩
  obtain ⟨a1, a2, a3⟩ := append_ok h
  rw [a3]
  exact ⟨nextS_may hm (by omega) (by omega), by unfold appendX; rw [if_pos h]⟩
 have hJ : Hid (∀ W, Kept [] w W → Calls Tryz.prog 109 #[.pointer (some ⟨b, 0, none⟩), .int .i64 v.s.journal, .int .i64 v.s.used, .string (bs s)] W fun e w' => e = .returned (.tuple #[.int .i64 (appendN v.d v.s.journal v.s.used s), .int .i64 (appendD v.d v.s.journal v.s.used s).2]) ∧ DA w' b sb mb lo (appendD v.d v.s.journal v.s.used s).1 ∧ PK [] b sb mb W w') := Lib.hid (fun W k => jappendP v.s.journal v.s.used s (hV.da.keep0 k) (by unfold SB.numOk at hsm; exact wf64 (by omega) (by omega)) (by unfold SB.numOk at hsm; exact wf64 (by omega) (by omega)) hs ho (by omega))
 have hfw := fw_append v.d v.s.journal v.s.used s
 have HFW : Hid ((appendD v.d v.s.journal v.s.used s).1.ops ≤ 80000 ∧ (appendD v.d v.s.journal v.s.used s).1.waits.length ≤ 8000) := Lib.hid ⟨by have := hfw.ops; omega, by have := hfw.waits; omega⟩
 generalize hN : appendN v.d v.s.journal v.s.used s = N at *
 obtain ⟨hX1, hX2⟩ := hX _ rfl
 have HX1 := Lib.hid hX1
 have HX2 := Lib.hid hX2
 have HVK : Hid (∀ W D, PK [] b sb mb w W → DA W b sb mb lo D → VolAt T W B b sb mb lo ⟨D, v.s, v.c, v.dead⟩) := Lib.hid (fun W D k hD => hV.pk k hD (fun x hx => by cases hx) (by simp))
 have HNEXT : Hid (RunsIn (w2.alloc (.cells #[.int .u64 (↑v.s.seq + 1), .int .i64 v.s.sectors, .int .i64 v.s.journal, .int .i64 v.s.used, .int .i64 v.s.size, .slice p2 v.s.runs.length c2] 58)) (.slice p2 v.s.runs.length c2) v.s.runs w.heap.size w2.heap.size) := Lib.hid hr3
 have HQ := Lib.hid hq
 have K3 := Lib.hid hk3
 have HC := Lib.hid hc
 have HCAT := Lib.hid hcat
 have HV := Lib.hid hV
 have HGS := Lib.hid hgS
 have hB0 : ∀ W, PK [] b sb mb w W → W.cell? ⟨B, 0, none⟩ = some (.pointer (some ⟨b, 0, none⟩)) := fun W k => by
  obtain ⟨sv0, vb0, vm0, vn0, o, _, _⟩ := hV.vol
  exact (k.own o ⟨by simp, hV.off.2⟩).cell 0 (by simp [volCells])
 have HB0 := Lib.hid hB0
 have HOS3 := Lib.hid oS3
 clear hX1 hX2 hX hfw hN hV hc hcat hm hq hs ho hw hsm hr2 hr3 k2 hk3 HN hB0 oS3 hgS
 generalize appendD v.d v.s.journal v.s.used s = A at *
 go_upto_region 2 with fail
 generalize w2.heap.size = gS at *
 generalize w2.alloc (.cells #[.int .u64 (↑v.s.seq + 1), .int .i64 v.s.sectors, .int .i64 v.s.journal, .int .i64 v.s.used, .int .i64 v.s.size, .slice p2 v.s.runs.length c2] 58) = w3 at *
 have HB : Hid (b < w.heap.size) := Lib.hid HV.out.b_lt
 have hoffS : OffD T w3 b sb mb gS := HV.out.da.off_new HV.out.hT K3.out HGS.out
 have HOFFS := Lib.hid hoffS
 have HS3 : Hid (∀ W, PK [] b sb mb w3 W → W.cell? ⟨gv, 0, none⟩ = some (.pointer (some ⟨B, 0, none⟩)) ∧ W.cell? ⟨B, 0, none⟩ = some (.pointer (some ⟨b, 0, none⟩)) ∧ W.cell? ⟨gt, 0, none⟩ = some (.string (bs s)) ∧ W.cell? ⟨gS, 2, none⟩ = some (.int .i64 v.s.journal) ∧ W.cell? ⟨gS, 3, none⟩ = some (.int .i64 v.s.used)) := Lib.hid (fun W k => by
  have kk := (K3.out.pk0 (T := []) (sb := sb) (mb := mb) HB.out).trans k
  obtain ⟨c1, c2, _⟩ := HC.out W (kk.mono (by simp))
  have o := k.own HOS3.out ⟨by simp, HOFFS.out.2⟩
  obtain ⟨_, _, e2, e3, _⟩ := o.c6
  exact ⟨c1, HB0.out W kk, c2, e2, e3⟩)
 have HB3 : Hid (b < w3.heap.size) := Lib.hid (Nat.lt_of_lt_of_le HB.out K3.out.size)
 clear hoffS x0 x1 x2 x3 x4 x5 x6 y0 y1 y2 y3 y4 y5 y6
 obtain ⟨y0, y1, y2, y3, y4⟩ := HS3.out w3 (PK.refl _ _ _ _ _)
 go_cut [5, 6] from 12 to 24 (fun v5 v6 wx => v5 = .int .i64 N ∧ v6 = .int .i64 A.2 ∧ DA wx b sb mb lo A.1 ∧ PK [] b sb mb w3 wx)
 case first =>
  refine wp_region_held_drew (S := (fun W => W.cell? ⟨gv, 0, none⟩ = some (.pointer (some ⟨B, 0, none⟩)) ∧ W.cell? ⟨B, 0, none⟩ = some (.pointer (some ⟨b, 0, none⟩)) ∧ W.cell? ⟨gt, 0, none⟩ = some (.string (bs s)) ∧ W.cell? ⟨gS, 2, none⟩ = some (.int .i64 v.s.journal) ∧ W.cell? ⟨gS, 3, none⟩ = some (.int .i64 v.s.used))) (by kernel_rfl) (by exact HS3.out _ ((Kept.refl [] w3).drew.pk0 HB3.out)) (fun hHeld => ?_)
  refine take_at (i := 0) (d := some 13) (v := ?_) rfl rfl (by kernel_rfl) (by kernel_rfl) (by kernel_rfl) (fun _ _ _ h => h) (Or.inl ⟨by rfl, ?_⟩) (by assumption) ?_
  rotate_left
  ·(intro w hSw; (try dsimp only at hSw); go_simp; try with_reducible rfl)
  try simp only [Act.put, List.setIfInBounds_toArray, List.set_cons_zero, List.set_cons_succ]
  refine take_at (i := 1) (d := some 14) (v := ?_) rfl rfl (by kernel_rfl) (by kernel_rfl) (by kernel_rfl) (fun _ _ _ h => h) (Or.inl ⟨by rfl, ?_⟩) (by assumption) ?_
  rotate_left
  ·(intro w hSw; (try dsimp only at hSw); go_simp; try with_reducible rfl)
  try simp only [Act.put, List.setIfInBounds_toArray, List.set_cons_zero, List.set_cons_succ]
  refine take_at (i := 2) (d := some 15) (v := ?_) rfl rfl (by kernel_rfl) (by kernel_rfl) (by kernel_rfl) (fun _ _ _ h => h) (Or.inl ⟨by rfl, ?_⟩) (by assumption) ?_
  rotate_left
  ·(intro w hSw; (try dsimp only at hSw); go_simp; try with_reducible rfl)
  try simp only [Act.put, List.setIfInBounds_toArray, List.set_cons_zero, List.set_cons_succ]
  refine take_at (i := 3) (d := some 16) (v := ?_) rfl rfl (by kernel_rfl) (by kernel_rfl) (by kernel_rfl) (fun _ _ _ h => h) (Or.inl ⟨by rfl, ?_⟩) (by assumption) ?_
  rotate_left
  ·(intro w hSw; (try dsimp only at hSw); go_simp; try with_reducible rfl)
  try simp only [Act.put, List.setIfInBounds_toArray, List.set_cons_zero, List.set_cons_succ]
  refine take_at (i := 4) (d := some 17) (v := ?_) rfl rfl (by kernel_rfl) (by kernel_rfl) (by kernel_rfl) (fun _ _ _ h => h) (Or.inl ⟨by rfl, ?_⟩) (by assumption) ?_
  rotate_left
  ·(intro w hSw; (try dsimp only at hSw); go_simp; try with_reducible rfl)
  try simp only [Act.put, List.setIfInBounds_toArray, List.set_cons_zero, List.set_cons_succ]
  refine take_at (i := 5) (d := some 18) (v := ?_) rfl rfl (by kernel_rfl) (by kernel_rfl) (by kernel_rfl) (fun _ _ _ h => h) (Or.inl ⟨by rfl, ?_⟩) (by assumption) ?_
  rotate_left
  ·(intro w hSw; (try dsimp only at hSw); go_simp; try with_reducible rfl)
  try simp only [Act.put, List.setIfInBounds_toArray, List.set_cons_zero, List.set_cons_succ]
  refine take_at (i := 6) (d := some 19) (v := ?_) rfl rfl (by kernel_rfl) (by kernel_rfl) (by kernel_rfl) (fun _ _ _ h => h) (Or.inl ⟨by rfl, ?_⟩) (by assumption) ?_
  rotate_left
  ·(intro w hSw; (try dsimp only at hSw); go_simp; try with_reducible rfl)
  try simp only [Act.put, List.setIfInBounds_toArray, List.set_cons_zero, List.set_cons_succ]
  refine take_at (i := 7) (d := some 20) (v := ?_) rfl rfl (by kernel_rfl) (by kernel_rfl) (by kernel_rfl) (fun _ _ _ h => h) (Or.inl ⟨by rfl, ?_⟩) (by assumption) ?_
  rotate_left
  ·(intro w hSw; (try dsimp only at hSw); go_simp; try with_reducible rfl)
  try simp only [Act.put, List.setIfInBounds_toArray, List.set_cons_zero, List.set_cons_succ]
  refine take_at (i := 8) (d := some 21) (v := ?_) rfl rfl (by kernel_rfl) (by kernel_rfl) (by kernel_rfl) (fun _ _ _ h => h) (Or.inl ⟨by rfl, ?_⟩) (by assumption) ?_
  rotate_left
  ·(intro w hSw; (try dsimp only at hSw); go_simp; try with_reducible rfl)
  try simp only [Act.put, List.setIfInBounds_toArray, List.set_cons_zero, List.set_cons_succ]
  refine wpAnyH_ready (rs := [9]) (by kernel_rfl) (by simp) ?_
  refine (AllReadyH.cons rfl (fun K hK => ?_) AllReadyH.nil)
  go_simp
  ((with_reducible refine (hJ.out _ (K3.out.drew)).mono ?_)); rintro e w4 ⟨rfl, hD4, k4⟩
  have kk := ((Kept.refl [] w3).drew.pk0 (T := []) (sb := sb) (mb := mb) HB3.out).trans k4
  have KK := Lib.hid kk
  have HD4 := Lib.hid hD4
  clear hD4 kk k4
  go_wp2_with fail
  refine hK.out _ _ ?_ (fun hHeld => ?_)
  ·exact HS3.out _ KK.out
  clear hK K
  try simp only [Act.put, List.setIfInBounds_toArray, List.set_cons_zero, List.set_cons_succ]
  refine take_at (i := 10) (d := some 12) (v := ?_) rfl rfl (by kernel_rfl) (by kernel_rfl) (by kernel_rfl) (fun _ _ _ h => h) (Or.inl ⟨by rfl, ?_⟩) (by assumption) ?_
  rotate_left
  ·(intro w hSw; (try dsimp only at hSw); go_simp; try with_reducible rfl)
  try simp only [Act.put, List.setIfInBounds_toArray, List.set_cons_zero, List.set_cons_succ]
  refine take_at (i := 11) (d := some 23) (v := ?_) rfl rfl (by kernel_rfl) (by kernel_rfl) (by kernel_rfl) (fun _ _ _ h => h) (Or.inl ⟨by rfl, ?_⟩) (by assumption) ?_
  rotate_left
  ·(intro w hSw; (try dsimp only at hSw); go_simp; try with_reducible rfl)
  try simp only [Act.put, List.setIfInBounds_toArray, List.set_cons_zero, List.set_cons_succ]
  refine take_at (i := 12) (d := some 24) (v := ?_) rfl rfl (by kernel_rfl) (by kernel_rfl) (by kernel_rfl) (fun _ _ _ h => h) (Or.inl ⟨by rfl, ?_⟩) (by assumption) ?_
  rotate_left
  ·(intro w hSw; (try dsimp only at hSw); go_simp; try with_reducible rfl)
  try simp only [Act.put, List.setIfInBounds_toArray, List.set_cons_zero, List.set_cons_succ]
  refine take_at (i := 13) (d := some 5) (v := ?_) rfl rfl (by kernel_rfl) (by kernel_rfl) (by kernel_rfl) (fun _ _ _ h => h) (Or.inl ⟨by rfl, ?_⟩) (by assumption) ?_
  rotate_left
  ·(intro w hSw; (try dsimp only at hSw); go_simp; try with_reducible rfl)
  try simp only [Act.put, List.setIfInBounds_toArray, List.set_cons_zero, List.set_cons_succ]
  refine take_at (i := 14) (d := some 6) (v := ?_) rfl rfl (by kernel_rfl) (by kernel_rfl) (by kernel_rfl) (fun _ _ _ h => h) (Or.inl ⟨by rfl, ?_⟩) (by assumption) ?_
  rotate_left
  ·(intro w hSw; (try dsimp only at hSw); go_simp; try with_reducible rfl)
  try simp only [Act.put, List.setIfInBounds_toArray, List.set_cons_zero, List.set_cons_succ]
  refine wpAnyH_done (by kernel_rfl) ?_ _
  try simp only [List.set_cons_succ, List.set_cons_zero]
  go_wp2_with fail
  go_meet
  exact ⟨rfl, rfl, HD4.out, KK.out⟩
 case rest =>
  obtain ⟨rfl, rfl, hD4, k4⟩ := hcut
  rename World => w4
  have hk04 : PK [] b sb mb w w4 := (K3.out.pk0 HB.out).trans k4
  have HD4 := Lib.hid hD4
  have K04 := Lib.hid hk04
  have K34 := Lib.hid k4
  clear hD4 hk04 k4 HS3 y0 y1 y2 y3 y4 hJ
  by_cases hA : A.2 = 0
  ·have e0 : (A.2 == 0) = true := by rw [hA]; rfl
   have hX2 := HX2.out hA
   have HX2' := Lib.hid hX2
   have oS4 := K34.out.own HOS3.out ⟨by simp, HOFFS.out.2⟩
   obtain ⟨y0, y1, y2, y3, y4, y5⟩ := oS4.c6
   have z3 := oS4.free 3
   have HOS4 := Lib.hid oS4
   clear hX2 HX1 HX2 hA oS4
   go_upto_region 6 with fail
   have oS5 : Own (w4.setCell ⟨gS, 3, none⟩ (.int .i64 N)) gS #[.int .u64 (↑v.s.seq + 1), .int .i64 v.s.sectors, .int .i64 v.s.journal, .int .i64 N, .int .i64 v.s.size, .slice p2 v.s.runs.length c2] 58 := HOS4.out.s6d _
   have k45 : Kept [gS] w4 (w4.setCell ⟨gS, 3, none⟩ (.int .i64 N)) := (Kept.refl [gS] w4).setCell (p := ⟨gS, 3, none⟩) (Or.inl (by simp)) _
   generalize w4.setCell ⟨gS, 3, none⟩ (.int .i64 N) = w5 at *
   have hoffS4 : OffD [] w4 b sb mb gS := ⟨by simp, (HOFFS.out.pk (K34.out.mono (by simp)) HOS3.out.lt).2⟩
   have hbS : b ∉ [gS] := by simp only [List.mem_singleton]; exact fun e => HOFFS.out.2.1 e.symm
   have hD5 : DA w5 b sb mb lo A.1 := ⟨HD4.out.disk.keepT k45 hoffS4 HOS4.out (by decide), HD4.out.fit⟩
   have hk05 : PK [] b sb mb w w5 := K04.out.callD k45 HB.out (fun x hx => by
    obtain rfl : x = gS := by simpa using hx
    exact Or.inr HGS.out) hbS
   have hr3 := HNEXT.out
   have hoffv3 : OffV (SD T w3 b sb mb) (.slice p2 v.s.runs.length c2) v.s.runs.length := (hr3.new (T := T) HV.out.da HV.out.hT K3.out (Nat.le_refl _)).2
   have hr4 := hr3.pk hoffv3 (K34.out.mono (by simp))
   have hoffv4 := hoffv3.pk (K34.out.mono (by simp)) hr3.blk_lt
   have hr5 : RunsIn w5 (.slice p2 v.s.runs.length c2) v.s.runs w.heap.size gS := hr4.kept k45 (fun x hx => by
    obtain rfl : x = gS := by simpa using hx
    exact Or.inr (Nat.le_refl _))
   have hro5 : RunsO T w5 b sb mb (.slice p2 v.s.runs.length c2) v.s.runs := ⟨⟨_, _, hr5⟩, by rw [SD.keptS k45 HD4.out.b_lt hbS]; exact hoffv4⟩
   have hcl : (nextS v.s N).cells (.slice p2 v.s.runs.length c2) = #[.int .u64 (↑v.s.seq + 1), .int .i64 v.s.sectors, .int .i64 v.s.journal, .int .i64 N, .int .i64 v.s.size, .slice p2 v.s.runs.length c2] := by unfold SB.cells nextS; simp
   have hall := uflay2 (T := []) (nextS v.s N) (.slice p2 v.s.runs.length c2) hD5 (fun x hx => by cases hx) (hro5.mono (by simp)) HX2'.out.1 (by show v.s.seq + 1 < _; have := HQ.out; omega) HFW.out.1 HFW.out.2
   have hl := ulaid b (nextS v.s N) (.slice p2 v.s.runs.length c2)
   rw [hcl] at hall hl
   have HALL := Lib.hid hall
   have HL := Lib.hid hl
   clear hall hl hcl
   have hb5 : b < w5.heap.size := hD5.b_lt
   have HB5 := Lib.hid hb5
   have hoffS5 : OffD T w5 b sb mb gS := ⟨HOFFS.out.1, hoffS4.2.1, hoffS4.2.2.1, hoffS4.2.2.2.1, fun hx => hoffS4.2.2.2.2 ((WB.of_cell (k45.cell (a := ⟨b, 1, none⟩) HD4.out.b_lt hbS)).1 hx)⟩
   have HOFFS5 := Lib.hid hoffS5
   have HOS5 := Lib.hid oS5
   have K05 := Lib.hid hk05
   have HRO5 := Lib.hid hro5
   have HS5 : Hid (∀ W, PK [] b sb mb w5 W → W.cell? ⟨gv, 0, none⟩ = some (.pointer (some ⟨B, 0, none⟩)) ∧ W.cell? ⟨B, 0, none⟩ = some (.pointer (some ⟨b, 0, none⟩)) ∧ W.cell? ⟨gS, 0, none⟩ = some (.int .u64 (↑v.s.seq + 1)) ∧ W.cell? ⟨gS, 1, none⟩ = some (.int .i64 v.s.sectors) ∧ W.cell? ⟨gS, 2, none⟩ = some (.int .i64 v.s.journal) ∧ W.cell? ⟨gS, 3, none⟩ = some (.int .i64 N) ∧ W.cell? ⟨gS, 4, none⟩ = some (.int .i64 v.s.size) ∧ W.cell? ⟨gS, 5, none⟩ = some (.slice p2 v.s.runs.length c2)) := Lib.hid (fun W k => by
    have kk := K05.out.trans k
    obtain ⟨c1, _⟩ := HC.out W (kk.mono (by simp))
    obtain ⟨e0, e1, e2, e3, e4, e5⟩ := (k.own HOS5.out ⟨by simp, HOFFS5.out.2⟩).c6
    exact ⟨c1, HB0.out W kk, e0, e1, e2, e3, e4, e5⟩)
   clear hoffS4 hbS hD5 hk05 hr3 hoffv3 hr4 hoffv4 hr5 hro5 hb5 hoffS5 oS5 k45 y0 y1 y2 y3 y4 y5 z3
   obtain ⟨y0, y1, y2, y3, y4, y5, y6, y7⟩ := HS5.out w5 (PK.refl _ _ _ _ _)
   generalize hCC : chainD [stepF, layD (nextS v.s N)] A.1 = CC at *
   clear hCC
   go_cut [6] from 25 to 42 (fun v6 wx => v6 = .int .i64 CC.2 ∧ DA wx b sb mb lo CC.1 ∧ PK [] b sb mb w5 wx)
   case first =>
    refine wp_region_held_drew (S := (fun W => W.cell? ⟨gv, 0, none⟩ = some (.pointer (some ⟨B, 0, none⟩)) ∧ W.cell? ⟨B, 0, none⟩ = some (.pointer (some ⟨b, 0, none⟩)) ∧ W.cell? ⟨gS, 0, none⟩ = some (.int .u64 (↑v.s.seq + 1)) ∧ W.cell? ⟨gS, 1, none⟩ = some (.int .i64 v.s.sectors) ∧ W.cell? ⟨gS, 2, none⟩ = some (.int .i64 v.s.journal) ∧ W.cell? ⟨gS, 3, none⟩ = some (.int .i64 N) ∧ W.cell? ⟨gS, 4, none⟩ = some (.int .i64 v.s.size) ∧ W.cell? ⟨gS, 5, none⟩ = some (.slice p2 v.s.runs.length c2))) (by kernel_rfl) (by exact HS5.out _ ((Kept.refl [] w5).drew.pk0 HB5.out)) (fun hHeld => ?_)
    refine take_at (i := 0) (d := some 30) (v := ?_) rfl rfl (by kernel_rfl) (by kernel_rfl) (by kernel_rfl) (fun _ _ _ h => h) (Or.inl ⟨by rfl, ?_⟩) (by assumption) ?_
    rotate_left
    ·(intro w hSw; (try dsimp only at hSw); go_simp; try with_reducible rfl)
    try simp only [Act.put, List.setIfInBounds_toArray, List.set_cons_zero, List.set_cons_succ]
    refine take_at (i := 1) (d := some 31) (v := ?_) rfl rfl (by kernel_rfl) (by kernel_rfl) (by kernel_rfl) (fun _ _ _ h => h) (Or.inl ⟨by rfl, ?_⟩) (by assumption) ?_
    rotate_left
    ·(intro w hSw; (try dsimp only at hSw); go_simp; try with_reducible rfl)
    try simp only [Act.put, List.setIfInBounds_toArray, List.set_cons_zero, List.set_cons_succ]
    refine take_at (i := 2) (d := some 32) (v := ?_) rfl rfl (by kernel_rfl) (by kernel_rfl) (by kernel_rfl) (fun _ _ _ h => h) (Or.inl ⟨by rfl, ?_⟩) (by assumption) ?_
    rotate_left
    ·(intro w hSw; (try dsimp only at hSw); go_simp; try with_reducible rfl)
    try simp only [Act.put, List.setIfInBounds_toArray, List.set_cons_zero, List.set_cons_succ]
    refine take_at (i := 3) (d := some 33) (v := ?_) rfl rfl (by kernel_rfl) (by kernel_rfl) (by kernel_rfl) (fun _ _ _ h => h) (Or.inl ⟨by rfl, ?_⟩) (by assumption) ?_
    rotate_left
    ·(intro w hSw; (try dsimp only at hSw); go_simp; try with_reducible rfl)
    try simp only [Act.put, List.setIfInBounds_toArray, List.set_cons_zero, List.set_cons_succ]
    refine take_at (i := 4) (d := some 34) (v := ?_) rfl rfl (by kernel_rfl) (by kernel_rfl) (by kernel_rfl) (fun _ _ _ h => h) (Or.inl ⟨by rfl, ?_⟩) (by assumption) ?_
    rotate_left
    ·(intro w hSw; (try dsimp only at hSw); go_simp; try with_reducible rfl)
    try simp only [Act.put, List.setIfInBounds_toArray, List.set_cons_zero, List.set_cons_succ]
    refine take_at (i := 5) (d := some 35) (v := ?_) rfl rfl (by kernel_rfl) (by kernel_rfl) (by kernel_rfl) (fun _ _ _ h => h) (Or.inl ⟨by rfl, ?_⟩) (by assumption) ?_
    rotate_left
    ·(intro w hSw; (try dsimp only at hSw); go_simp; try with_reducible rfl)
    try simp only [Act.put, List.setIfInBounds_toArray, List.set_cons_zero, List.set_cons_succ]
    refine take_at (i := 6) (d := some 36) (v := ?_) rfl rfl (by kernel_rfl) (by kernel_rfl) (by kernel_rfl) (fun _ _ _ h => h) (Or.inl ⟨by rfl, ?_⟩) (by assumption) ?_
    rotate_left
    ·(intro w hSw; (try dsimp only at hSw); go_simp; try with_reducible rfl)
    try simp only [Act.put, List.setIfInBounds_toArray, List.set_cons_zero, List.set_cons_succ]
    refine take_at (i := 7) (d := some 37) (v := ?_) rfl rfl (by kernel_rfl) (by kernel_rfl) (by kernel_rfl) (fun _ _ _ h => h) (Or.inl ⟨by rfl, ?_⟩) (by assumption) ?_
    rotate_left
    ·(intro w hSw; (try dsimp only at hSw); go_simp; try with_reducible rfl)
    try simp only [Act.put, List.setIfInBounds_toArray, List.set_cons_zero, List.set_cons_succ]
    refine take_at (i := 8) (d := some 38) (v := ?_) rfl rfl (by kernel_rfl) (by kernel_rfl) (by kernel_rfl) (fun _ _ _ h => h) (Or.inl ⟨by rfl, ?_⟩) (by assumption) ?_
    rotate_left
    ·(intro w hSw; (try dsimp only at hSw); go_simp; try with_reducible rfl)
    try simp only [Act.put, List.setIfInBounds_toArray, List.set_cons_zero, List.set_cons_succ]
    refine take_at (i := 9) (d := some 39) (v := ?_) rfl rfl (by kernel_rfl) (by kernel_rfl) (by kernel_rfl) (fun _ _ _ h => h) (Or.inl ⟨by rfl, ?_⟩) (by assumption) ?_
    rotate_left
    ·(intro w hSw; (try dsimp only at hSw); go_simp; try with_reducible rfl)
    try simp only [Act.put, List.setIfInBounds_toArray, List.set_cons_zero, List.set_cons_succ]
    refine wpAnyH_ready (rs := [10]) (by kernel_rfl) (by simp) ?_
    refine (AllReadyH.cons rfl (fun K hK => ?_) AllReadyH.nil)
    go_simp
    ((with_reducible refine (HL.out _).mono ?_)); rintro e w6 ⟨rfl, rfl⟩
    go_wp2_with fail
    refine hK.out _ _ ?_ (fun hHeld => ?_)
    ·exact HS5.out _ ((((Kept.refl [] w5).alloc (.cells #[.pointer (some ⟨b, 0, none⟩)] 23)).alloc (.cells #[.int .u64 (↑v.s.seq + 1), .int .i64 v.s.sectors, .int .i64 v.s.journal, .int .i64 N, .int .i64 v.s.size, .slice p2 v.s.runs.length c2] 58)).drew.pk0 HB5.out)
    clear hK K
    try simp only [Act.put, List.setIfInBounds_toArray, List.set_cons_zero, List.set_cons_succ]
    refine wpAnyH_ready (rs := [11]) (by kernel_rfl) (by simp) ?_
    refine (AllReadyH.cons rfl (fun K hK => ?_) AllReadyH.nil)
    go_simp
    refine hK.out _ _ ?_ (fun hHeld => ?_)
    ·exact HS5.out _ (((((Kept.refl [] w5).alloc (.cells #[.pointer (some ⟨b, 0, none⟩)] 23)).alloc (.cells #[.int .u64 (↑v.s.seq + 1), .int .i64 v.s.sectors, .int .i64 v.s.journal, .int .i64 N, .int .i64 v.s.size, .slice p2 v.s.runs.length c2] 58)).alloc (.cells #[.func (.func 39) #[.pointer (some ⟨b, 0, none⟩)] #[], .func (.func 92) #[] #[.pointer (some ⟨w5.heap.size + 1, 0, none⟩), .pointer (some ⟨w5.heap.size, 0, none⟩)]] 42)).drew.pk0 HB5.out)
    clear hK K
    try simp only [Act.put, List.setIfInBounds_toArray, List.set_cons_zero, List.set_cons_succ]
    obtain ⟨o1, o2, o3⟩ := own_three w5 #[.pointer (some ⟨b, 0, none⟩)] #[.int .u64 (↑v.s.seq + 1), .int .i64 v.s.sectors, .int .i64 v.s.journal, .int .i64 N, .int .i64 v.s.size, .slice p2 v.s.runs.length c2] #[.func (.func 39) #[.pointer (some ⟨b, 0, none⟩)] #[], .func (.func 92) #[] #[.pointer (some ⟨w5.heap.size + 1, 0, none⟩), .pointer (some ⟨w5.heap.size, 0, none⟩)]] 23 58 42
    refine wpAnyH_ready (rs := [12]) (by kernel_rfl) (by simp) ?_
    refine (AllReadyH.cons rfl (fun K hK => ?_) AllReadyH.nil)
    go_simp
    ((with_reducible refine (HALL.out _ (((((Kept.refl [] w5).alloc (.cells #[.pointer (some ⟨b, 0, none⟩)] 23)).alloc (.cells #[.int .u64 (↑v.s.seq + 1), .int .i64 v.s.sectors, .int .i64 v.s.journal, .int .i64 N, .int .i64 v.s.size, .slice p2 v.s.runs.length c2] 58)).alloc (.cells #[.func (.func 39) #[.pointer (some ⟨b, 0, none⟩)] #[], .func (.func 92) #[] #[.pointer (some ⟨w5.heap.size + 1, 0, none⟩), .pointer (some ⟨w5.heap.size, 0, none⟩)]] 42)).drew) _ (w5.heap.size + 1) w5.heap.size (by omega) (by omega) (by omega) o3.drew o2.drew o1.drew).mono ?_)); rintro e w7 ⟨rfl, hD7, k7⟩
    have kk := ((((((Kept.refl [] w5).alloc (.cells #[.pointer (some ⟨b, 0, none⟩)] 23)).alloc (.cells #[.int .u64 (↑v.s.seq + 1), .int .i64 v.s.sectors, .int .i64 v.s.journal, .int .i64 N, .int .i64 v.s.size, .slice p2 v.s.runs.length c2] 58)).alloc (.cells #[.func (.func 39) #[.pointer (some ⟨b, 0, none⟩)] #[], .func (.func 92) #[] #[.pointer (some ⟨w5.heap.size + 1, 0, none⟩), .pointer (some ⟨w5.heap.size, 0, none⟩)]] 42)).drew).pk0 (T := []) (sb := sb) (mb := mb) HB5.out).trans k7
    have KK := Lib.hid kk
    have HD7 := Lib.hid hD7
    clear hD7 kk k7 o1 o2 o3
    go_wp2_with fail
    refine hK.out _ _ ?_ (fun hHeld => ?_)
    ·exact HS5.out _ KK.out
    clear hK K
    try simp only [Act.put, List.setIfInBounds_toArray, List.set_cons_zero, List.set_cons_succ]
    refine take_at (i := 13) (d := some 6) (v := ?_) rfl rfl (by kernel_rfl) (by kernel_rfl) (by kernel_rfl) (fun _ _ _ h => h) (Or.inl ⟨by rfl, ?_⟩) (by assumption) ?_
    rotate_left
    ·(intro w hSw; (try dsimp only at hSw); go_simp; try with_reducible rfl)
    try simp only [Act.put, List.setIfInBounds_toArray, List.set_cons_zero, List.set_cons_succ]
    refine wpAnyH_done (by kernel_rfl) ?_ _
    try simp only [List.set_cons_succ, List.set_cons_zero]
    go_wp2_with fail
    go_meet
    exact ⟨rfl, HD7.out, KK.out⟩
   case rest =>
    obtain ⟨rfl, hD7, k7⟩ := hcut
    rename World => w7
    have hk07 : PK [] b sb mb w w7 := K05.out.trans k7
    have HD7 := Lib.hid hD7
    have K07 := Lib.hid hk07
    have K57 := Lib.hid k7
    have hV7 := HVK.out w7 CC.1 hk07 hD7
    have HV7 := Lib.hid hV7
    clear hD7 hk07 k7 hV7 y0 y1 y2 y3 y4 y5 y6 y7 HALL HL
    by_cases hC : CC.2 = 0
    ·have e1 : (CC.2 == 0) = true := by rw [hC]; rfl
     have hX3 := HX2'.out.2
     rw [if_pos hC] at hX3
     have HX3 := Lib.hid hX3
     have HCZ := Lib.hid hC
     have hS7 : ∀ W, PK [B] b sb mb w7 W → W.cell? ⟨gv, 0, none⟩ = some (.pointer (some ⟨B, 0, none⟩)) ∧ W.cell? ⟨gc, 0, none⟩ = some (.int .u32 c.nextBox) ∧ W.cell? ⟨gc, 1, none⟩ = some (.int .u32 c.nextMan) ∧ W.cell? ⟨gc, 2, none⟩ = some (.slice q1 m1 d1) ∧ W.cell? ⟨gc, 3, none⟩ = some (.slice q2 m2 d2) ∧ W.cell? ⟨gc, 4, none⟩ = some (.slice q3 m3 d3) ∧ W.cell? ⟨gS, 0, none⟩ = some (.int .u64 (↑v.s.seq + 1)) ∧ W.cell? ⟨gS, 1, none⟩ = some (.int .i64 v.s.sectors) ∧ W.cell? ⟨gS, 2, none⟩ = some (.int .i64 v.s.journal) ∧ W.cell? ⟨gS, 3, none⟩ = some (.int .i64 N) ∧ W.cell? ⟨gS, 4, none⟩ = some (.int .i64 v.s.size) ∧ W.cell? ⟨gS, 5, none⟩ = some (.slice p2 v.s.runs.length c2) := fun W k => by
      have kk := (K07.out.mono (T := [B]) (by simp)).trans k
      obtain ⟨c1, _, d0, d1, d2, d3, d4⟩ := HC.out W kk
      obtain ⟨e0, e1, e2, e3, e4, e5⟩ := (((K57.out.mono (T := [B]) (by simp)).trans k).own HOS5.out (HOFFS5.out.toB HV.out.hB)).c6
      exact ⟨c1, d0, d1, d2, d3, d4, e0, e1, e2, e3, e4, e5⟩
     have HS7 := Lib.hid hS7
     have hcat7 := HCAT.out.pk (K07.out.mono (T := T) (by simp))
     have hr7 := HRO5.out.pk (K57.out.mono (T := T) (by simp))
     obtain ⟨sv7, vb7, vm7, vn7, o7, _, _⟩ := HV7.out.vol
     unfold volCells at o7
     have O7 := Lib.hid o7
     have HR7 := Lib.hid hr7
     have HCAT7 := Lib.hid hcat7
     obtain ⟨y0, y1, y2, y3, y4, y5, y6, y7, y8, y9, y10, y11⟩ := hS7 w7 (PK.refl _ _ _ _ _)
     clear hr7 hcat7 hS7 o7 hC hX3
     go_upto_region 8 with fail
     generalize hq9 : ((v.s.seq : Int) + 1) = q9 at *
     have HQ9 := Lib.hid hq9
     clear hq9
     refine wp_region_held_drew (S := (fun W => W.cell? ⟨gv, 0, none⟩ = some (.pointer (some ⟨B, 0, none⟩)) ∧ W.cell? ⟨gc, 0, none⟩ = some (.int .u32 c.nextBox) ∧ W.cell? ⟨gc, 1, none⟩ = some (.int .u32 c.nextMan) ∧ W.cell? ⟨gc, 2, none⟩ = some (.slice q1 m1 d1) ∧ W.cell? ⟨gc, 3, none⟩ = some (.slice q2 m2 d2) ∧ W.cell? ⟨gc, 4, none⟩ = some (.slice q3 m3 d3) ∧ W.cell? ⟨gS, 0, none⟩ = some (.int .u64 q9) ∧ W.cell? ⟨gS, 1, none⟩ = some (.int .i64 v.s.sectors) ∧ W.cell? ⟨gS, 2, none⟩ = some (.int .i64 v.s.journal) ∧ W.cell? ⟨gS, 3, none⟩ = some (.int .i64 N) ∧ W.cell? ⟨gS, 4, none⟩ = some (.int .i64 v.s.size) ∧ W.cell? ⟨gS, 5, none⟩ = some (.slice p2 v.s.runs.length c2))) (by kernel_rfl) (by exact HS7.out _ (HV7.out.pkB1 (Kept.refl [B] w7).drew)) (fun hHeld => ?_)
     refine take_at (i := 0) (d := some 45) (v := ?_) rfl rfl (by kernel_rfl) (by kernel_rfl) (by kernel_rfl) (fun _ _ _ h => h) (Or.inl ⟨by rfl, ?_⟩) (by assumption) ?_
     rotate_left
     ·(intro w hSw; (try dsimp only at hSw); go_simp; try with_reducible rfl)
     try simp only [Act.put, List.setIfInBounds_toArray, List.set_cons_zero, List.set_cons_succ]
     refine take_at (i := 1) (d := some 46) (v := ?_) rfl rfl (by kernel_rfl) (by kernel_rfl) (by kernel_rfl) (fun _ _ _ h => h) (Or.inl ⟨by rfl, ?_⟩) (by assumption) ?_
     rotate_left
     ·(intro w hSw; (try dsimp only at hSw); go_simp; try with_reducible rfl)
     try simp only [Act.put, List.setIfInBounds_toArray, List.set_cons_zero, List.set_cons_succ]
     refine take_at (i := 2) (d := some 47) (v := ?_) rfl rfl (by kernel_rfl) (by kernel_rfl) (by kernel_rfl) (fun _ _ _ h => h) (Or.inl ⟨by rfl, ?_⟩) (by assumption) ?_
     rotate_left
     ·(intro w hSw; (try dsimp only at hSw); go_simp; try with_reducible rfl)
     try simp only [Act.put, List.setIfInBounds_toArray, List.set_cons_zero, List.set_cons_succ]
     refine take_at (i := 3) (d := some 48) (v := ?_) rfl rfl (by kernel_rfl) (by kernel_rfl) (by kernel_rfl) (fun _ _ _ h => h) (Or.inl ⟨by rfl, ?_⟩) (by assumption) ?_
     rotate_left
     ·(intro w hSw; (try dsimp only at hSw); go_simp; try with_reducible rfl)
     try simp only [Act.put, List.setIfInBounds_toArray, List.set_cons_zero, List.set_cons_succ]
     refine take_at (i := 4) (d := some 49) (v := ?_) rfl rfl (by kernel_rfl) (by kernel_rfl) (by kernel_rfl) (fun _ _ _ h => h) (Or.inl ⟨by rfl, ?_⟩) (by assumption) ?_
     rotate_left
     ·(intro w hSw; (try dsimp only at hSw); go_simp; try with_reducible rfl)
     try simp only [Act.put, List.setIfInBounds_toArray, List.set_cons_zero, List.set_cons_succ]
     refine take_at (i := 5) (d := some 50) (v := ?_) rfl rfl (by kernel_rfl) (by kernel_rfl) (by kernel_rfl) (fun _ _ _ h => h) (Or.inl ⟨by rfl, ?_⟩) (by assumption) ?_
     rotate_left
     ·(intro w hSw; (try dsimp only at hSw); go_simp; try with_reducible rfl)
     try simp only [Act.put, List.setIfInBounds_toArray, List.set_cons_zero, List.set_cons_succ]
     have o8 := O7.out.drew.scat (.int .u32 c.nextBox) (.int .u32 c.nextMan) (.slice q1 m1 d1) (.slice q2 m2 d2) (.slice q3 m3 d3)
     have k8 : Kept [B] w7 (((((w7.drew.setCell ⟨B, 7, none⟩ (.int .u32 c.nextBox)).setCell ⟨B, 8, none⟩ (.int .u32 c.nextMan)).setCell ⟨B, 9, none⟩ (.slice q1 m1 d1)).setCell ⟨B, 10, none⟩ (.slice q2 m2 d2)).setCell ⟨B, 11, none⟩ (.slice q3 m3 d3)) := (((((((Kept.refl [B] w7).drew).setCell (p := ⟨B, 7, none⟩) (Or.inl List.mem_cons_self) (.int .u32 c.nextBox)).setCell (p := ⟨B, 8, none⟩) (Or.inl List.mem_cons_self) (.int .u32 c.nextMan)).setCell (p := ⟨B, 9, none⟩) (Or.inl List.mem_cons_self) (.slice q1 m1 d1)).setCell (p := ⟨B, 10, none⟩) (Or.inl List.mem_cons_self) (.slice q2 m2 d2)).setCell (p := ⟨B, 11, none⟩) (Or.inl List.mem_cons_self) (.slice q3 m3 d3))
     refine wpAnyH_ready (rs := [6]) (by kernel_rfl) (by simp) ?_
     refine (AllReadyH.cons rfl (fun K hK => ?_) AllReadyH.nil)
     refine step_store_mid rfl 52 _ _ rfl B 7 #[.int .u32 c.nextBox, .int .u32 c.nextMan, .slice q1 m1 d1, .slice q2 m2 d2, .slice q3 m3 d3] (by simp [Act.eval, Act.put]) (by simp [Act.eval, Act.put]) (O7.out.drew.there 7 5 (by simp)) (by kernel_rfl) (all_oneCell_toArray (cs := [.int .u32 c.nextBox, .int .u32 c.nextMan, .slice q1 m1 d1, .slice q2 m2 d2, .slice q3 m3 d3]) (by intro u hu; simp at hu; rcases hu with rfl | rfl | rfl | rfl | rfl <;> rfl)) ?_
     rw [setCells_cat]
     generalize (((((w7.drew.setCell ⟨B, 7, none⟩ (.int .u32 c.nextBox)).setCell ⟨B, 8, none⟩ (.int .u32 c.nextMan)).setCell ⟨B, 9, none⟩ (.slice q1 m1 d1)).setCell ⟨B, 10, none⟩ (.slice q2 m2 d2)).setCell ⟨B, 11, none⟩ (.slice q3 m3 d3)) = w8 at *
     have O8 := Lib.hid o8
     have K8 := Lib.hid k8
     clear o8 k8
     refine hK.out _ _ ?_ (fun hHeld => ?_)
     ·exact HS7.out w8 (HV7.out.pkB1 K8.out)
     clear hK K
     try simp only [Act.put, List.setIfInBounds_toArray, List.set_cons_zero, List.set_cons_succ]
     refine take_at (i := 7) (d := some 51) (v := ?_) rfl rfl (by kernel_rfl) (by kernel_rfl) (by kernel_rfl) (fun _ _ _ h => h) (Or.inl ⟨by rfl, ?_⟩) (by assumption) ?_
     rotate_left
     ·(intro w hSw; (try dsimp only at hSw); go_simp; try with_reducible rfl)
     try simp only [Act.put, List.setIfInBounds_toArray, List.set_cons_zero, List.set_cons_succ]
     refine take_at (i := 8) (d := some 52) (v := ?_) rfl rfl (by kernel_rfl) (by kernel_rfl) (by kernel_rfl) (fun _ _ _ h => h) (Or.inl ⟨by rfl, ?_⟩) (by assumption) ?_
     rotate_left
     ·(intro w hSw; (try dsimp only at hSw); go_simp; try with_reducible rfl)
     try simp only [Act.put, List.setIfInBounds_toArray, List.set_cons_zero, List.set_cons_succ]
     have o9 := O8.out.ssup (.int .u64 q9) (.int .i64 v.s.sectors) (.int .i64 v.s.journal) (.int .i64 N) (.int .i64 v.s.size) (.slice p2 v.s.runs.length c2)
     have k9 : Kept [B] w7 ((((((w8.setCell ⟨B, 1, none⟩ (.int .u64 q9)).setCell ⟨B, 2, none⟩ (.int .i64 v.s.sectors)).setCell ⟨B, 3, none⟩ (.int .i64 v.s.journal)).setCell ⟨B, 4, none⟩ (.int .i64 N)).setCell ⟨B, 5, none⟩ (.int .i64 v.s.size)).setCell ⟨B, 6, none⟩ (.slice p2 v.s.runs.length c2)) := ((((((K8.out.setCell (p := ⟨B, 1, none⟩) (Or.inl List.mem_cons_self) (.int .u64 q9)).setCell (p := ⟨B, 2, none⟩) (Or.inl List.mem_cons_self) (.int .i64 v.s.sectors)).setCell (p := ⟨B, 3, none⟩) (Or.inl List.mem_cons_self) (.int .i64 v.s.journal)).setCell (p := ⟨B, 4, none⟩) (Or.inl List.mem_cons_self) (.int .i64 N)).setCell (p := ⟨B, 5, none⟩) (Or.inl List.mem_cons_self) (.int .i64 v.s.size)).setCell (p := ⟨B, 6, none⟩) (Or.inl List.mem_cons_self) (.slice p2 v.s.runs.length c2))
     refine wpAnyH_ready (rs := [9]) (by kernel_rfl) (by simp) ?_
     refine (AllReadyH.cons rfl (fun K hK => ?_) AllReadyH.nil)
     refine step_store_mid rfl 58 _ _ rfl B 1 #[.int .u64 q9, .int .i64 v.s.sectors, .int .i64 v.s.journal, .int .i64 N, .int .i64 v.s.size, .slice p2 v.s.runs.length c2] (by simp [Act.eval, Act.put]) (by simp [Act.eval, Act.put]) (O8.out.there 1 6 (by simp)) (by kernel_rfl) (all_oneCell_toArray (cs := [.int .u64 q9, .int .i64 v.s.sectors, .int .i64 v.s.journal, .int .i64 N, .int .i64 v.s.size, .slice p2 v.s.runs.length c2]) (by intro u hu; simp at hu; rcases hu with rfl | rfl | rfl | rfl | rfl | rfl <;> rfl)) ?_
     rw [setCells_sup]
     generalize ((((((w8.setCell ⟨B, 1, none⟩ (.int .u64 q9)).setCell ⟨B, 2, none⟩ (.int .i64 v.s.sectors)).setCell ⟨B, 3, none⟩ (.int .i64 v.s.journal)).setCell ⟨B, 4, none⟩ (.int .i64 N)).setCell ⟨B, 5, none⟩ (.int .i64 v.s.size)).setCell ⟨B, 6, none⟩ (.slice p2 v.s.runs.length c2)) = w9 at *
     have O9 := Lib.hid o9
     have K9 := Lib.hid k9
     clear o9 k9
     refine hK.out _ _ ?_ (fun hHeld => ?_)
     ·exact HS7.out w9 (HV7.out.pkB1 K9.out)
     clear hK K
     try simp only [Act.put, List.setIfInBounds_toArray, List.set_cons_zero, List.set_cons_succ]
     have hv9 : VolAt T w9 B b sb mb lo ⟨CC.1, nextS v.s N, c, v.dead⟩ := HV7.out.setV (s := nextS v.s N) (c := c) (dead := v.dead) K9.out (by
      have e : ((nextS v.s N).seq : Int) = q9 := by show ((v.s.seq + 1 : Nat) : Int) = q9; have := HQ9.out; omega
      unfold volCells
      rw [e]
      exact O9.out) HR7.out HCAT7.out
     have HV9 := Lib.hid hv9
     clear hv9
     refine wpAnyH_done (by kernel_rfl) ?_ _
     try simp only [List.set_cons_succ, List.set_cons_zero]
     go_wp2_with fail
     go_ret
     rw [HX3.out]
     exact ⟨by rw [HCZ.out]; rfl, HV9.out, (K07.out.mono (by simp)).trans (HV7.out.pkB1 K9.out)⟩
    ·have e1 : (CC.2 == 0) = false := by rw [beq_eq_false_iff_ne]; exact hC
     have hX3 := HX2'.out.2
     rw [if_neg hC] at hX3
     have HX3 := Lib.hid hX3
     clear hX3 hC
     go_wp2_with fail
     go_ret
     rw [HX3.out]
     exact ⟨rfl, HV7.out, K07.out.mono (by simp)⟩
  ·have e0 : (A.2 == 0) = false := by rw [beq_eq_false_iff_ne]; exact hA
   have HX1' := Lib.hid (HX1.out hA)
   have hV4 := HVK.out w4 A.1 K04.out HD4.out
   have HV4 := Lib.hid hV4
   clear hA HX1 HX2 hV4
   go_wp2_with fail
   go_ret
   rw [HX1'.out]
   exact ⟨rfl, HV4.out, K04.out.mono (by simp)⟩
end Go.Proofs.YtdkimcnlhmhpgaaGreat
