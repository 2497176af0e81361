/- -/
import Derived.Test.YtdkimcnlhmhpgaaGreatH39
import Derived.Test.YtdkimcnlhmhpgaaGreatH47
import Derived.Test.YtdkimcnlhmhpgaaGreatH48
import Derived.Test.YtdkimcnlhmhpgaaGreatH49
import Derived.Test.YtdkimcnlhmhpgaaGreatH50
set_option linter.unusedVariables false
set_option linter.unusedSimpArgs false
namespace Go.Proofs.YtdkimcnlhmhpgaaGreat
open Go.RowKit
theorem quiet_flush_waits {d : DK} (h : Quiet d) : (fNext d).waits = [] := by
 unfold fNext
 rw [if_neg (by rw [h.down]; simp), if_neg (by have := h.fuse; omega)]
 rfl
theorem quiet_lay_waits {d : DK} (h : Quiet d) {s : SB} (hs : s.sector.length = 128) (hn : 2 ≤ d.stand.length) : (layD s d).1.waits = [] := by
 have h1 : (stepW ((s.seq % 2 : Nat) : Int) s.sector d).2 = 0 := quiet_wcode h (by omega) hs
 have h2 := (quiet_stepW (P := fun _ => False) h ((s.seq % 2 : Nat) : Int) s.sector (fun k hk => hk.elim)).1.quiet
 show (if (stepW ((s.seq % 2 : Nat) : Int) s.sector d).2 = 0 then (if (stepF (stepW ((s.seq % 2 : Nat) : Int) s.sector d).1).2 = 0 then ((stepF (stepW ((s.seq % 2 : Nat) : Int) s.sector d).1).1, (0 : Int)) else stepF (stepW ((s.seq % 2 : Nat) : Int) s.sector d).1) else stepW ((s.seq % 2 : Nat) : Int) s.sector d).1.waits = []
 rw [if_pos h1]
 have h3 : (stepF (stepW ((s.seq % 2 : Nat) : Int) s.sector d).1).2 = 0 := h2.fcode
 rw [if_pos h3]
 exact quiet_flush_waits h2
theorem quiet_fl_waits {d : DK} (h : Quiet d) {s : SB} (hs : s.sector.length = 128) (hn : 2 ≤ d.stand.length) : (chainD [stepF, layD s] d).1.waits = [] := by
 have h1 : (stepF d).2 = 0 := h.fcode
 have h2 := (quiet_stepF (P := fun _ => False) h).1
 show (if (stepF d).2 = 0 then (if (layD s (stepF d).1).2 = 0 then ((layD s (stepF d).1).1, (0 : Int)) else layD s (stepF d).1) else stepF d).1.waits = []
 rw [if_pos h1, if_pos (quiet_lay_ok h2.quiet hs (by rw [h2.len]; exact hn))]
 exact quiet_lay_waits h2.quiet hs (by rw [h2.len]; exact hn)
theorem fmt_waits {d : DK} (h : Quiet d) (j : Int) (hn : 2 ≤ d.stand.length) : (fmtD j d).1.waits = [] := by
 have hz : zeroS.length = 128 := by unfold zeroS; exact List.length_replicate
 have q1 := (quiet_stepW (P := fun _ => False) h 0 zeroS (fun k hk => hk.elim)).1
 have c1 : (stepW 0 zeroS d).2 = 0 := quiet_wcode h (i := 0) (by omega) hz
 have q2 := (quiet_stepW (P := fun _ => False) q1.quiet 1 zeroS (fun k hk => hk.elim)).1
 have c2 : (stepW 1 zeroS (stepW 0 zeroS d).1).2 = 0 := quiet_wcode q1.quiet (i := 1) (by rw [q1.len]; omega) hz
 have e : fmtD j d = if (stepW 0 zeroS d).2 = 0 then (if (stepW 1 zeroS (stepW 0 zeroS d).1).2 = 0 then chainD [stepF, layD (sb0 d.stand.length j)] (stepW 1 zeroS (stepW 0 zeroS d).1).1 else stepW 1 zeroS (stepW 0 zeroS d).1) else stepW 0 zeroS d := rfl
 rw [e, if_pos c1, if_pos c2]
 exact quiet_fl_waits q2.quiet (sector_len (sb0 d.stand.length j) (by show 0 ≤ 16; omega)) (by rw [q2.len, q1.len]; exact hn)
theorem quiet_appendX_waits {v : VS} (h : Quiet v.d) {c : JCat} {tx : List UInt8} (hf : fitCode v.d.stand.length v.s.journal v.s.used = 0) (hs : (tx.length : Int) ≤ 128 * v.s.journal - v.s.used) (hr : v.s.runs.length ≤ 16) : (appendX c tx v).1.d.waits = [] := by
 obtain ⟨f1, f2, f3, f4⟩ := fit_ok hf
 have h1 := quiet_append_ok h hf hs
 have h2 := (quiet_append (P := fun _ => False) h v.s.journal v.s.used tx (fun k hk => hk.elim)).1
 have h3 := quiet_chain2_ok h2.quiet (sector_len (nextS v.s (v.s.used + tx.length)) hr) (by rw [h2.len]; omega)
 unfold appendX
 rw [if_pos h1, if_pos h3]
 exact quiet_fl_waits h2.quiet (sector_len (nextS v.s (v.s.used + tx.length)) hr) (by rw [h2.len]; omega)
theorem quiet_settleX_ok {v : VS} (h : Quiet v.d) {c : JCat} {t : List UInt8} {R : List (Int × Int)} (hX : FitX R v.d.stand.length t.length) (hn : 2 ≤ v.d.stand.length) : (settleX c t R v).2 = 0 ∧ (settleX c t R v).1.s = baseS v.s t.length R ∧ (settleX c t R v).1.d.waits = [] := by
 have h1 := quiet_put_ok h hX
 have h2 := (quiet_putX (P := fun _ => False) h R t (fun k hk => hk.elim)).1
 have hsec := sector_len (baseS v.s t.length R) (by exact hX.2.1)
 have h3 := quiet_chain2_ok h2.quiet hsec (by rw [h2.len]; exact hn)
 have e : setD v.s t R v.d = if (putX v.d R t).2 = 0 then chainD [stepF, layD (baseS v.s t.length R)] (putX v.d R t).1 else putX v.d R t := rfl
 rw [if_pos h1] at e
 unfold settleX
 rw [e, if_pos h3]
 exact ⟨rfl, rfl, quiet_fl_waits h2.quiet hsec (by rw [h2.len]; exact hn)⟩
theorem low_fit {L : List (Int × Int)} {n t : Nat} (h0 : lowCode L (need t) = 0) (hL : ∀ k : Nat, hasB L k = true → (k : Int) < n) : FitX (lowestL L (need t)) n t := by
 obtain ⟨l1, l2, l3⟩ := low_is h0
 refine ⟨by omega, l3, pl_mayX (low_pl _ _) (fun k hk => ⟨by omega, ?_⟩), ?_⟩
 ·have h1 := hL k (low_has hk)
  have h2 := (canon_lt hk).1
  omega
 ·rw [← plain_sum, plain_self (low_pl _ _)]
  exact low_sum l1 l2
theorem puts_ok (n : Nat) : ∀ (l : List VC) (recs : List JRec), (∀ k (h : k < l.length) (h' : k < recs.length), kBlob l[k].kind = true → FitX recs[k].runs n l[k].bytes.length) → ∀ d : DK, Quiet d → d.stand.length = n → (chainD (putsD l recs) d).2 = 0 ∧ Quiet (chainD (putsD l recs) d).1 ∧ (chainD (putsD l recs) d).1.stand.length = n
 | [], _, _, d, hq, hl => ⟨rfl, hq, hl⟩
 | x :: l, [], _, d, hq, hl => ⟨rfl, hq, hl⟩
 | x :: l, r :: recs, H, d, hq, hl => by
  have ih := puts_ok n l recs (fun k h h' hb => H (k + 1) (by simpa using h) (by simpa using h') hb)
  unfold putsD
  split
  ·rename_i hb
   have h1 : (putX d r.runs x.bytes).2 = 0 := quiet_put_ok hq (s := x.bytes) (by rw [hl]; exact H 0 (by simp) (by simp) hb)
   have h2 := (quiet_putX (P := fun _ => False) hq r.runs x.bytes (fun k hk => hk.elim)).1
   show (if (putX d r.runs x.bytes).2 = 0 then chainD (putsD l recs) (putX d r.runs x.bytes).1 else putX d r.runs x.bytes).2 = 0 ∧ Quiet (if (putX d r.runs x.bytes).2 = 0 then chainD (putsD l recs) (putX d r.runs x.bytes).1 else putX d r.runs x.bytes).1 ∧ (if (putX d r.runs x.bytes).2 = 0 then chainD (putsD l recs) (putX d r.runs x.bytes).1 else putX d r.runs x.bytes).1.stand.length = n
   rw [if_pos h1]
   exact ih _ h2.quiet (h2.len.trans hl)
  ·exact ih d hq hl
structure VInv (m q : Nat) (v : VS) : Prop where
 quiet : Quiet v.d
 dead : v.dead = false
 fit : VFit m v
 waits : v.d.waits = []
 sect : v.s.sectors = v.d.stand.length
 ops : v.d.ops ≤ q
 len : v.d.stand.length ≤ 100
theorem VInv.mono {m m' q q' : Nat} {v : VS} (h : VInv m q v) (h1 : m ≤ m') (h2 : q ≤ q') : VInv m' q' v :=
 ⟨h.quiet, h.dead, ⟨h.fit.may, h.fit.cat, by have := h.fit.few; omega, by have := h.fit.seq; omega, h.fit.jr⟩, h.waits, h.sect, by have := h.ops; omega, h.len⟩
set_option maxRecDepth 100000 in
theorem ops_a {X Y Z q : Nat} (h3 : Z ≤ 9 * 101) (h4 : Y ≤ X + (Z + 40)) (hop : X ≤ q) : Y ≤ q + 1200 := by omega
set_option maxRecDepth 100000 in
theorem ops_b {X Y Z q n : Nat} (h3 : Z ≤ 8 * 101) (h4 : Y ≤ X + (Z + 3 * (n + 2))) (hop : X ≤ q) (hn : n ≤ 100) : Y ≤ q + 1200 := by omega
theorem inv_checkpoint {m q : Nat} {v : VS} (h : VInv m q v) : VInv (m + 1) (q + 1000) (checkpointX v).1 := by
 have h0 := h.mono (Nat.le_add_right m 1) (Nat.le_add_right q 1000)
 obtain ⟨⟨a1, a2, a3, a4, a5, a6, a7, a8, a9, a10⟩, b, c⟩ := h.fit.may
 have hse := h.sect
 unfold checkpointX
 rw [if_neg (by rw [h.dead]; simp)]
 split
 ·exact h0
 ·split
  ·exact h0
  ·rename_i c1 c2
   have hlc : lowCode (roomX v) (need (putOut v.c).1.length) = 0 := by simpa using c2
   have hroom : ∀ k : Nat, hasB (roomX v) k = true → 2 + v.s.journal ≤ (k : Int) ∧ (k : Int) < v.s.sectors := fun k hk => ⟨(room_has hk).1, (room_has hk).2.1⟩
   have hX := low_fit (n := v.d.stand.length) hlc (fun k hk => by have := (hroom k hk).2; omega)
   have hb := baseS_may h.fit.may hlc hroom
   generalize lowestL (roomX v) (need (putOut v.c).1.length) = R at *
   generalize (putOut v.c).1 = t at *
   obtain ⟨s1, s2, s3⟩ := quiet_settleX_ok h.quiet (c := v.c) hX (by omega)
   obtain ⟨s4, _⟩ := settleX_ok s1
   obtain ⟨q1, q2, q3, _⟩ := quiet_settleX (P := fun _ => False) v.c t R v (fun k hk => hk.elim) h.quiet
   have hfw := fw_settleX v.c t R v
   generalize settleX v.c t R v = SX at *
   have hdl := h.len
   exact ⟨q1.quiet, by show (SX.1.dead || SX.2 == 90) = false; rw [q3, h.dead, s1]; rfl, ⟨by show SX.1.s.may; rw [s2]; exact hb, by show mayC SX.1.c; rw [s4]; exact h.fit.cat, by show SX.1.c.boxes.length + SX.1.c.mans.length + SX.1.c.names.length ≤ m + 1; rw [s4]; have := h.fit.few; omega, by show SX.1.s.seq ≤ m + 1; rw [s2]; have := h.fit.seq; show v.s.seq + 1 ≤ m + 1; omega, by show SX.1.s.journal ≤ 30; rw [s2]; exact h.fit.jr⟩, s3, by show SX.1.s.sectors = _; rw [s2]; show v.s.sectors = (SX.1.d.stand.length : Int); rw [q1.len]; exact h.sect, by show SX.1.d.ops ≤ _; have := hfw.ops; have := h.ops; omega, by show SX.1.d.stand.length ≤ 100; rw [q1.len]; exact h.len⟩
open Classical in
theorem inv_change {m q : Nat} {v : VS} (h : VInv m q v) (l : List VC) (hl8 : l.length ≤ 8) (hid : ∀ x ∈ l, 0 ≤ x.id) : VInv (m + 8) (q + 1200) (changeX v l).1 := by
 have h0 := h.mono (Nat.le_add_right m 8) (Nat.le_add_right q 1200)
 obtain ⟨⟨a1, a2, a3, a4, a5, a6, a7, a8, a9, a10⟩, b, c⟩ := h.fit.may
 have hse := h.sect
 have hdl := h.len
 have hop := h.ops
 have hjr := h.fit.jr
 unfold changeX
 rw [if_neg (by rw [h.dead]; simp)]
 split
 ·exact h0
 ·rename_i c1
  split
  ·exact h0
  ·rename_i c2
   have c2 : planOk (roomX v) l := Classical.byContradiction c2
   split
   ·exact h0
   ·rename_i c3
    have c3 : (applyX v.c (planAt (roomX v) l l.length).1).2 = 0 := by simpa using c3
    have hroom : ∀ k : Nat, hasB (roomX v) k = true → 2 + v.s.journal ≤ (k : Int) ∧ (k : Int) < v.s.sectors := fun k hk => ⟨(room_has hk).1, (room_has hk).2.1⟩
    have hap : applyX v.c (planAt (roomX v) l l.length).1 = recsX v.c (planAt (roomX v) l l.length).1 := by unfold applyX; rw [if_pos h.fit.cat]
    have hcm : mayC (applyX v.c (planAt (roomX v) l l.length).1).1 := by
     rw [hap] at c3 ⊢
     exact recs_may h.fit.cat (plan_ids _ _ hid) c3
    have hPL := planAt_len (roomX v) l _ (Nat.le_refl _)
    have hputs := puts_ok v.d.stand.length l (planAt (roomX v) l l.length).1 (fun k hk hk' hb => by
     rw [planAt_at (roomX v) l k hk hk', if_pos hb]
     exact low_fit (c2 k hk hb) (fun i hi => by
      have := (hroom i (plan_left (roomX v) l k (by omega) i hi)).2
      omega)) v.d h.quiet rfl
    have hfew : totC (applyX v.c (planAt (roomX v) l l.length).1).1 ≤ m + 8 := by
     have h1 := apply_tot (planAt (roomX v) l l.length).1 v.c
     have h2 := h.fit.few
     unfold totC at h1 ⊢
     omega
    have hfwp := fw_puts l (planAt (roomX v) l l.length).1 v.d.stand.length
    have hpl := putsD_len l (planAt (roomX v) l l.length).1
    obtain ⟨p1, p2, p3⟩ := hputs
    split
    ·exact h0
    ·split
     ·rename_i c5
      generalize (planAt (roomX v) l l.length).1 = P at *
      generalize (applyX v.c P).1 = AC at *
      generalize txOut P = tx at *
      have hfw := fw_all (v.d.stand.length + 1) 40 (putsD l P ++ [stepF]) (appendX AC tx) v (fun f hf e he => by
       rcases List.mem_append.1 hf with hf | hf
       ·exact (hfwp f hf e he).mono (by omega)
       ·obtain rfl := List.mem_singleton.1 hf
        exact (fw_stepF e).mono (by omega)) (fun u hu => (fw_appendX2 AC tx u).mono (by omega))
      have hq2 := (quiet_stepF (P := fun _ => False) p2).1
      have hfc := p2.fcode
      have hfit : fitCode (stepF (chainD (putsD l P) v.d).1).1.stand.length v.s.journal v.s.used = 0 := by
       rw [hq2.len, p3]
       unfold fitCode
       rw [if_neg (by omega)]
      have hap := quiet_appendX_ok (v := ⟨(stepF (chainD (putsD l P) v.d).1).1, v.s, v.c, v.dead⟩) hq2.quiet (c := AC) (tx := tx) hfit (by show _ ≤ 128 * v.s.journal - v.s.used; omega) a10
      have haw := quiet_appendX_waits (v := ⟨(stepF (chainD (putsD l P) v.d).1).1, v.s, v.c, v.dead⟩) hq2.quiet (c := AC) (tx := tx) hfit (by show _ ≤ 128 * v.s.journal - v.s.used; omega) a10
      have hac := appendX_ok hap.1
      obtain ⟨q1, q2, q3, _⟩ := quiet_appendX (P := fun _ => False) AC tx ⟨(stepF (chainD (putsD l P) v.d).1).1, v.s, v.c, v.dead⟩ (fun k hk => hk.elim) hq2.quiet
      have hall : chainV (putsX l P ++ [onD stepF, appendX AC tx]) v = ((appendX AC tx ⟨(stepF (chainD (putsD l P) v.d).1).1, v.s, v.c, v.dead⟩).1, 0) := by
       unfold putsX
       rw [chainV_append, chainV_onD, if_pos (show (onD (chainD (putsD l P)) v).2 = 0 from p1)]
       show (if (stepF (chainD (putsD l P) v.d).1).2 = 0 then (if (appendX AC tx ⟨(stepF (chainD (putsD l P) v.d).1).1, v.s, v.c, v.dead⟩).2 = 0 then _ else _) else _) = _
       rw [if_pos (show (stepF (chainD (putsD l P) v.d).1).2 = 0 from hfc), if_pos hap.1]
       rfl
      have e : putsX l P ++ [onD stepF, appendX AC tx] = (putsD l P ++ [stepF]).map onD ++ [appendX AC tx] := by unfold putsX; simp
      rw [← e, hall] at hfw
      rw [hall]
      have hlen := q1.len.trans (hq2.len.trans p3)
      have hs2 := hap.2
      have hc2 := hac.1
      generalize appendX AC tx ⟨(stepF (chainD (putsD l P) v.d).1).1, v.s, v.c, v.dead⟩ = SX at *
      refine ⟨q1.quiet, by show (SX.1.dead || (0 : Int) == 90) = false; rw [q3]; show (v.dead || _) = false; rw [h.dead]; rfl, ⟨?_, by show mayC SX.1.c; rw [hc2]; exact hcm, by show SX.1.c.boxes.length + SX.1.c.mans.length + SX.1.c.names.length ≤ m + 8; rw [hc2]; exact hfew, ?_, by show SX.1.s.journal ≤ 30; rw [hs2]; exact h.fit.jr⟩, haw, ?_, ?_, by show SX.1.d.stand.length ≤ 100; rw [hlen]; exact h.len⟩
      ·show SX.1.s.may
       rw [hs2]
       exact nextS_may h.fit.may (by show (0 : Int) ≤ v.s.used + tx.length; omega) (by show v.s.used + (tx.length : Int) ≤ _; omega)
      ·show SX.1.s.seq ≤ m + 8
       rw [hs2]
       have := h.fit.seq
       show v.s.seq + 1 ≤ m + 8
       omega
      ·show SX.1.s.sectors = (SX.1.d.stand.length : Int)
       rw [hs2, hlen]
       exact h.sect
      ·show SX.1.d.ops ≤ _
       have h2 : (putsD l P ++ [stepF]).length ≤ 9 := by rw [List.length_append, List.length_singleton]; omega
       have h3 : (putsD l P ++ [stepF]).length * (v.d.stand.length + 1) ≤ 9 * 101 := Nat.mul_le_mul h2 (by omega)
       have h4 : SX.1.d.ops ≤ v.d.ops + ((putsD l P ++ [stepF]).length * (v.d.stand.length + 1) + 40) := hfw.ops
       exact ops_a h3 h4 hop
     ·rename_i c5
      split
      ·exact h0
      ·split
       ·exact h0
       ·rename_i c6 c7
        have hlc : lowCode (planAt (roomX v) l l.length).2 (need (putOut (applyX v.c (planAt (roomX v) l l.length).1).1).1.length) = 0 := by simpa using c7
        have hroom2 : ∀ k : Nat, hasB (planAt (roomX v) l l.length).2 k = true → 2 + v.s.journal ≤ (k : Int) ∧ (k : Int) < v.s.sectors := fun k hk => hroom k (plan_left (roomX v) l l.length (Nat.le_refl _) k hk)
        have hX := low_fit (n := v.d.stand.length) hlc (fun k hk => by have := (hroom2 k hk).2; omega)
        have hb := baseS_may h.fit.may hlc hroom2
        generalize (planAt (roomX v) l l.length).1 = P at *
        generalize (applyX v.c P).1 = AC at *
        generalize lowestL (planAt (roomX v) l l.length).2 (need (putOut AC).1.length) = R at *
        generalize (putOut AC).1 = t at *
        have hfw := fw_all (v.d.stand.length + 1) (3 * (v.d.stand.length + 2)) (putsD l P) (settleX AC t R) v (fun f hf e he => (hfwp f hf e he).mono (by omega)) (fun u hu => by rw [← hu]; exact fw_settleX AC t R u)
        obtain ⟨s1, s2, s3⟩ := quiet_settleX_ok (v := ⟨(chainD (putsD l P) v.d).1, v.s, v.c, v.dead⟩) p2 (c := AC) (t := t) (R := R) (by show FitX R ((chainD (putsD l P) v.d).1.stand.length : Nat) _; rw [p3]; exact hX) (by show 2 ≤ (chainD (putsD l P) v.d).1.stand.length; omega)
        obtain ⟨s4, _⟩ := settleX_ok s1
        obtain ⟨q1, q2, q3, _⟩ := quiet_settleX (P := fun _ => False) AC t R ⟨(chainD (putsD l P) v.d).1, v.s, v.c, v.dead⟩ (fun k hk => hk.elim) p2
        have hall : chainV (putsX l P ++ [settleX AC t R]) v = ((settleX AC t R ⟨(chainD (putsD l P) v.d).1, v.s, v.c, v.dead⟩).1, 0) := by
         unfold putsX
         rw [chainV_append, chainV_onD, if_pos (show (onD (chainD (putsD l P)) v).2 = 0 from p1)]
         show (if (settleX AC t R ⟨(chainD (putsD l P) v.d).1, v.s, v.c, v.dead⟩).2 = 0 then _ else _) = _
         rw [if_pos s1]
         rfl
        have e : putsX l P ++ [settleX AC t R] = (putsD l P).map onD ++ [settleX AC t R] := rfl
        rw [← e, hall] at hfw
        rw [hall]
        have hlen := q1.len.trans p3
        generalize settleX AC t R ⟨(chainD (putsD l P) v.d).1, v.s, v.c, v.dead⟩ = SX at *
        refine ⟨q1.quiet, by show (SX.1.dead || (0 : Int) == 90) = false; rw [q3]; show (v.dead || _) = false; rw [h.dead]; rfl, ⟨?_, by show mayC SX.1.c; rw [s4]; exact hcm, by show SX.1.c.boxes.length + SX.1.c.mans.length + SX.1.c.names.length ≤ m + 8; rw [s4]; exact hfew, ?_, by show SX.1.s.journal ≤ 30; rw [s2]; exact h.fit.jr⟩, s3, ?_, ?_, by show SX.1.d.stand.length ≤ 100; rw [hlen]; exact h.len⟩
        ·show SX.1.s.may
         rw [s2]
         exact hb
        ·show SX.1.s.seq ≤ m + 8
         rw [s2]
         have := h.fit.seq
         show v.s.seq + 1 ≤ m + 8
         omega
        ·show SX.1.s.sectors = (SX.1.d.stand.length : Int)
         rw [s2, hlen]
         exact h.sect
        ·show SX.1.d.ops ≤ _
         have h3 : (putsD l P).length * (v.d.stand.length + 1) ≤ 8 * 101 := Nat.mul_le_mul (by omega) (by omega)
         have h4 : SX.1.d.ops ≤ v.d.ops + ((putsD l P).length * (v.d.stand.length + 1) + 3 * (v.d.stand.length + 2)) := hfw.ops
         exact ops_b h3 h4 hop hdl
theorem inv_new {d : DK} (h : Quiet d) (h0 : d.ops ≤ 0) (hw : d.waits = []) {j : Int} (h1 : 1 ≤ j) (h2 : 4 ≤ d.stand.length) (h3 : j ≤ (d.stand.length : Int) - 2) (h4 : d.stand.length ≤ 100) (hj : j ≤ 30) : VInv 1 100 ⟨(fmtD j d).1, sb0 d.stand.length j, catE, false⟩ := by
 obtain ⟨f1, f2, f3⟩ := fmt_ok h j (by omega)
 have hops : (fmtD j d).1.ops ≤ 100 := by
  have h := chain_few 2 [stepW 0 zeroS, stepW 1 zeroS, stepF, layD (sb0 d.stand.length j)] (fun f hf d => by
   simp only [List.mem_cons, List.not_mem_nil, or_false] at hf
   rcases hf with rfl | rfl | rfl | rfl
   ·have := stepW_few 0 zeroS d; exact ⟨by omega, by omega, this.2.2⟩
   ·have := stepW_few 1 zeroS d; exact ⟨by omega, by omega, this.2.2⟩
   ·have := stepF_few d; exact ⟨by omega, by omega, this.2.2⟩
   ·exact layD_few _ d) d
  have h1 := h.1
  simp only [List.length_cons, List.length_nil] at h1
  unfold fmtD
  omega
 exact ⟨f2, rfl, ⟨sb0_may h1 (by omega) h3 (by omega), mayC_E, by show 0 + 0 + 0 ≤ 1; omega, Nat.le_refl _, hj⟩, fmt_waits h j (by omega), by show (d.stand.length : Int) = ((fmtD j d).1.stand.length : Nat); rw [f3], hops, by show (fmtD j d).1.stand.length ≤ 100; rw [f3]; exact h4⟩
theorem PK.toKept {T : List Nat} {b sb mb : Nat} {w w' : World} (k : PK T b sb mb w w') (n : Nat) (hT : ∀ x ∈ T, x < n) (hb : b < n) (hs : sb < n) (hm : mb < n) (hwb : ∀ g, WB w b g → g < n) : ∃ S, Kept S w w' ∧ ∀ x ∈ S, x < n := by
 classical
 by_cases h : ∃ g, WB w b g
 ·obtain ⟨g, hg⟩ := h
  have hu : ∀ g', WB w b g' → g' = g := fun g' hg' => by
   obtain ⟨v, h1, h2⟩ := hg
   obtain ⟨v', h3, h4⟩ := hg'
   rw [h1] at h3
   injection h3 with e
   subst e
   rw [h2] at h4
   injection h4 with e
   exact e.symm
  refine ⟨g :: b :: sb :: mb :: T, ⟨k.os, k.tape, k.output, k.size, fun q hq hS => ?_⟩, fun x hx => ?_⟩
  ·simp only [List.mem_cons, not_or] at hS
   exact k.block q hq hS.2.2.2.2 hS.2.1 hS.2.2.1 hS.2.2.2.1 (fun hw => hS.1 (hu q hw))
  ·simp only [List.mem_cons] at hx
   rcases hx with rfl | rfl | rfl | rfl | hx
   ·exact hwb _ hg
   ·exact hb
   ·exact hs
   ·exact hm
   ·exact hT x hx
 ·refine ⟨b :: sb :: mb :: T, ⟨k.os, k.tape, k.output, k.size, fun q hq hS => ?_⟩, fun x hx => ?_⟩
  ·simp only [List.mem_cons, not_or] at hS
   exact k.block q hq hS.2.2.2 hS.1 hS.2.1 hS.2.2.1 (fun hw => h ⟨q, hw⟩)
  ·simp only [List.mem_cons] at hx
   rcases hx with rfl | rfl | rfl | hx
   ·exact hb
   ·exact hs
   ·exact hm
   ·exact hT x hx
structure HV (T : List Nat) (w wr : World) (B b sb mb lo : Nat) (v : VS) : Prop where
 vol : VolAt T wr B b sb mb lo v
 kept : Kept [] w wr
 new : w.heap.size ≤ B ∧ w.heap.size ≤ b ∧ w.heap.size ≤ sb ∧ w.heap.size ≤ mb ∧ ∀ k, WB wr b k → w.heap.size ≤ k
theorem HV.keep0 {T : List Nat} {w wr w' : World} {B b sb mb lo : Nat} {v : VS} (h : HV T w wr B b sb mb lo v) (k : Kept [] wr w') : HV T w w' B b sb mb lo v :=
 ⟨h.vol.keep0 k, h.kept.trans k, h.new.1, h.new.2.1, h.new.2.2.1, h.new.2.2.2.1, fun g hg => h.new.2.2.2.2 g ((h.vol.da.wb_kept k g).1 hg)⟩
theorem HV.pk {T : List Nat} {w wr w' : World} {B b sb mb lo : Nat} {v v' : VS} (h : HV T w wr B b sb mb lo v) (k : PK [B] b sb mb wr w') (hV : VolAt T w' B b sb mb lo v') : HV T w w' B b sb mb lo v' := by
 obtain ⟨n1, n2, n3, n4, n5⟩ := h.new
 exact ⟨hV, h.kept.then_below (k.kept w.heap.size h.kept.size (fun x hx => by
  obtain rfl : x = B := by simpa using hx
  exact n1) n2 n3 n4 n5), n1, n2, n3, n4, fun g hg => by
  rcases k.wb g hg with h1 | h1
  ·exact n5 g h1
  ·exact Nat.le_trans h.kept.size h1⟩
theorem HV.row {T : List Nat} {w wr wa w' : World} {B b sb mb lo : Nat} {v : VS} (h : HV T w wr B b sb mb lo v) (k0 : Kept [] wr wa) (k : PK [B] b sb mb wa w') : ∃ S, Kept S wa w' ∧ ∀ x ∈ S, x < wr.heap.size :=
 k.toKept wr.heap.size (fun x hx => by
  obtain rfl : x = B := by simpa using hx
  exact h.vol.B_lt) h.vol.da.b_lt h.vol.da.sb_lt h.vol.da.mb_lt (fun g hg => h.vol.da.wb_lt ((h.vol.da.wb_kept k0 g).1 hg))
theorem HV.change {T : List Nat} {w wr : World} {B b sb mb lo m q : Nat} {v : VS} (h : HV T w wr B b sb mb lo v) (hI : VInv m q v) (hm : m ≤ 900) (hq : q ≤ 35000) (vl : Value) (l : List VC) (lo1 hi1 : Nat) (hl : ChsIn wr vl l lo1 hi1) (hl8 : l.length ≤ 8) (hf : ∀ x ∈ l, x.fits) :
  Calls Tryz.prog 11 #[.pointer (some ⟨B, 0, none⟩), vl] wr fun e w' => e = .returned (.int .i64 (changeX v l).2) ∧ HV T w w' B b sb mb lo (changeX v l).1 ∧ PK [B] b sb mb wr w' :=
 (uchange vl l lo1 hi1 h.vol ⟨hI.fit.may, hI.fit.cat, by have := hI.fit.few; omega, by have := hI.fit.seq; omega, hI.fit.jr⟩ hl hl8 hf (by have := hI.ops; omega) (by rw [hI.waits]; exact Nat.zero_le _) hI.len).mono fun e w' hh => ⟨hh.1, h.pk hh.2.2 hh.2.1, hh.2.2⟩
theorem HV.checkpoint {T : List Nat} {w wr : World} {B b sb mb lo m q : Nat} {v : VS} (h : HV T w wr B b sb mb lo v) (hI : VInv m q v) (hm : m ≤ 900) (hq : q ≤ 35000) :
  Calls Tryz.prog 13 #[.pointer (some ⟨B, 0, none⟩)] wr fun e w' => e = .returned (.int .i64 (checkpointX v).2) ∧ HV T w w' B b sb mb lo (checkpointX v).1 ∧ PK [B] b sb mb wr w' :=
 (ucheckpoint h.vol ⟨hI.fit.may, hI.fit.cat, by have := hI.fit.few; omega, by have := hI.fit.seq; omega, hI.fit.jr⟩ (by have := hI.ops; omega) (by rw [hI.waits]; exact Nat.zero_le _) hI.len).mono fun e w' hh => ⟨hh.1, h.pk hh.2.2 hh.2.1, hh.2.2⟩
theorem read_quiet {v : VS} (hq : Quiet v.d) (hd : v.dead = false) (k id : Int) (nm : List UInt8) : (readX v k id nm).2.2 = v := by
 unfold readX
 split
 ·rfl
 ·split
  ·rfl
  ·split
   ·rfl
   ·have : (getCode v.d (askX v.c k id nm).1.runs (askX v.c k id nm).1.size == 90) = false := by
     unfold getCode
     rw [hq.down]
     split <;> decide
    simp only
    rw [this, ← hd]
theorem HV.read {T : List Nat} {w wr : World} {B b sb mb lo : Nat} {v : VS} (h : HV T w wr B b sb mb lo v) (hq : Quiet v.d) (hd : v.dead = false) (hc : mayC v.c) (k id : Int) (hk : k = 1 ∨ k = 2 ∨ k = 3) (nm : List UInt8) :
  Calls Tryz.prog 15 #[.pointer (some ⟨B, 0, none⟩), .int .i64 k, .int .u32 id, .string (bs nm)] wr fun e w' => e = .returned (.tuple #[.string (bs (readX v k id nm).1), .int .i64 (readX v k id nm).2.1]) ∧ HV T w w' B b sb mb lo v ∧ PK [B] b sb mb wr w' := by
 have hr : Calls Tryz.prog 15 #[.pointer (some ⟨B, 0, none⟩), .int .i64 k, .int .u32 id, .string (bs nm)] wr (VReadSays T B b sb mb lo (readX v k id nm) wr) := by
  rcases hk with rfl | rfl | rfl
  ·exact uread1 id nm h.vol hc hd
  ·exact uread2 id nm h.vol hc hd
  ·exact uread3 id nm h.vol hc hd
 refine hr.mono fun e w' hh => ?_
 obtain ⟨h1, h2, h3⟩ := hh
 rw [read_quiet hq hd] at h2
 have hp := h.vol.pkB1 h3
 exact ⟨h1, h.pk hp h2, hp⟩
theorem HV.made {T : List Nat} {w w1 w2 : World} {B b sb mb lo : Nat} {d d' : DK} {n j : Int} (k1 : Kept [] w w1) (hD : DA w1 b sb mb lo d) (hn : w.heap.size ≤ b ∧ w.heap.size ≤ sb ∧ w.heap.size ≤ mb ∧ w.heap.size ≤ lo) (k2 : PK [] b sb mb w1 w2) (hD2 : DA w2 b sb mb lo d') (hB : w1.heap.size ≤ B) (hBT : B ∈ T) (hT : ∀ x ∈ T, x < w2.heap.size) (hoff : OffD [] w2 b sb mb B)
  (o : Own w2 B (volCells b (sb0 n j) (.slice none 0 0) ⟨1, 1, [], [], []⟩ (.slice none 0 0) (.slice none 0 0) (.slice none 0 0) false) 90) : HV T w w2 B b sb mb lo ⟨d', sb0 n j, catE, false⟩ := by
 obtain ⟨n1, n2, n3, n4⟩ := hn
 have hwb : ∀ k, WB w1 b k → w.heap.size ≤ k := fun k hk => Nat.le_trans n4 (hD.disk.wb hk).1
 refine ⟨⟨hD2, ⟨_, _, _, _, o, RunsO.nil none 0, CatO.empty _ _ _ _ _⟩, hBT, hT, hoff⟩, k1.then_below (k2.kept w.heap.size k1.size (fun x hx => by cases hx) n1 n2 n3 hwb), Nat.le_trans k1.size hB, n1, n2, n3, fun g hg => ?_⟩
 rcases k2.wb g hg with h1 | h1
 ·exact hwb g h1
 ·exact Nat.le_trans k1.size h1
end Go.Proofs.YtdkimcnlhmhpgaaGreat
