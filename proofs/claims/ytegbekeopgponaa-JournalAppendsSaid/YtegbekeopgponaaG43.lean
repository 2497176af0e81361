/- Layer 13 (journal): what is written, sector by sector, wherever the power goes, and what is loaded then. -/
import Derived.Test.YtegbekeopgponaaG42
namespace Go.Proofs.Ytegbekeopgponaa
open Go.RowKit
set_option linter.unusedVariables false
set_option linter.unusedSimpArgs false

theorem nrm_calm {d : DK} (h : d.fuse = -1) : nrm d = d := by
  obtain ⟨st, ws, fu, op, dn⟩ := d
  simp only at h
  subst h
  rfl
theorem appendD_stand {d : DK} (hf : Fit d) (j u : Int) (S : List UInt8) : (appendD d j u S).1.stand = d.stand := by
  unfold appendD
  by_cases h1 : fitCode d.stand.length j u ≠ 0
  · rw [if_pos h1]
  · rw [if_neg h1]
    by_cases h2 : 128 * j - u < S.length
    · rw [if_pos h2]
    · rw [if_neg h2]
      by_cases h3 : d.down = true
      · rw [if_pos h3]
      · rw [if_neg h3]
        by_cases h4 : S = []
        · rw [if_pos h4]
        · rw [if_neg h4]
          exact (app_waits _ d _ _ (Nat.le_refl _) hf).1
set_option maxRecDepth 100000 in
set_option maxHeartbeats 8000000 in
theorem appendsLaw (a : JCase) (vb vk : Value) (w : World) (hb : BytesIn w vb a.bytes 0 w.heap.size) (hk : BoolsIn w vk a.keep 0 w.heap.size) (hf : a.fits) :
    Calls Try.prog 8 #[.agg (a.cells vb vk)] w fun e w' => e = .returned (.bool true) ∧ Below w.heap.size w w' := by
  have hsk : ∃ pk nk ck, vk = .slice pk nk ck := by
    rcases hk with ⟨_, x, c, rfl⟩ | ⟨b, off, c, rfl, _⟩
    · exact ⟨_, _, _, rfl⟩
    · exact ⟨_, _, _, rfl⟩
  have haw := fun W => jawake W
  have hbig := fun W (k : Kept [] w W) => jbig a vb vk W _ _ _ _ (hb.kept0 k) (hk.kept k (fun x hx => by cases hx))
  have hlaid := fun W (n : Nat) (k : Kept [] w W) (hn : a.n = n) (h1 : 1 ≤ n) (h2 : n ≤ 40) => jlaid a vb vk n _ W (hb.kept0 k) hn h1 h2 hsk
  have HB := Lib.hid hbig
  have HLAID := Lib.hid hlaid
  have HAW := Lib.hid haw
  have HF := Lib.hid hf
  have HK := Lib.hid hk
  clear haw hbig hlaid hf hk
  obtain ⟨pb, cb, rfl⟩ := hb.shape
  obtain ⟨pk, nk, ck, rfl⟩ := hsk
  clear hb
  have o0 := Own.new w (a.cells (.slice pb a.bytes.length cb) (.slice pk nk ck)) 39
  have k0 : Kept [] w (w.alloc (.cells (a.cells (.slice pb a.bytes.length cb) (.slice pk nk ck)) 39)) := (Kept.refl _ _).alloc _
  unfold JCase.cells at *
  have OO := Lib.hid o0
  have KK := Lib.hid k0
  clear o0 k0
  have hz : ((bs a.s).size : Int) = a.s.length := by rw [bs_size]
  have HZ := Lib.hid hz
  clear hz
  go_enter Try.func8, Try.ntmps8
  go_wp2_with fail
  refine (HB.out _ KK.out).mono ?_; rintro e w1 ⟨k1, hc⟩
  have k01 := KK.out.trans k1
  have o1 := k1.own OO.out (by simp)
  clear HB
  rcases hc with rfl | ⟨rfl, n1, n2, s3, kp⟩
  · go_wp2_with fail
    refine (HAW.out _).mono ?_; rintro e w2 ⟨rfl, k2⟩
    go_wp2_with fail
    go_ret
    exact ⟨rfl, (k01.trans k2).below⟩
  · obtain ⟨n, hn⟩ := Int.eq_ofNat_of_zero_le (show 0 ≤ a.n by omega)
    have hnn : a.n = (n : Int) := hn
    have hl := HLAID.out w1 n k01 hnn (by omega) (by omega)
    rw [hnn] at n1 n2 o1 OO KK hl ⊢
    have hft := fun W => qfits n a.j a.u W (by omega) HF.out.2.2.1 HF.out.2.2.2.1
    have HFT := Lib.hid hft
    have HL := Lib.hid hl
    have hcs : ∀ W, Kept [] w1 W → W.cell? ⟨w.heap.size, 0, none⟩ = some (.int .i64 (n : Int)) ∧ W.cell? ⟨w.heap.size, 1, none⟩ = some (.slice pb a.bytes.length cb) ∧ W.cell? ⟨w.heap.size, 2, none⟩ = some (.int .i64 a.fuse) ∧ W.cell? ⟨w.heap.size, 3, none⟩ = some (.int .i64 a.j) ∧ W.cell? ⟨w.heap.size, 4, none⟩ = some (.int .i64 a.u) ∧ W.cell? ⟨w.heap.size, 5, none⟩ = some (.string (bs a.s)) ∧ W.cell? ⟨w.heap.size, 6, none⟩ = some (.slice pk nk ck) := fun W k => by
      have o := k.own o1 (by simp)
      exact ⟨o.cell 0 (by simp), o.cell 1 (by simp), o.cell 2 (by simp), o.cell 3 (by simp), o.cell 4 (by simp), o.cell 5 (by simp), o.cell 6 (by simp)⟩
    have HCS := Lib.hid hcs
    have hws : w.heap.size ≤ w1.heap.size := k01.size
    obtain ⟨c0, c1, c2, c3, c4, c5, c6⟩ := HCS.out w1 (Kept.refl _ _)
    have N12 : Hid (1 ≤ n ∧ n ≤ 40) := ⟨by omega, by omega⟩
    clear hft hn hnn n1 n2 o1 hl hcs HLAID
    go_wp2_with fail
    refine HL.out.mono ?_; rintro e w2 ⟨W0, b, sb, mb, lo, r, rlo, d, rfl, hB, kW, hC, hW⟩
    have hfu := hB.dFuse a.fuse HF.out.2.1
    have efu : fuseD d a.fuse = nrm (fuseR d a.fuse) := by
      have := fuse_nrm d a.fuse
      rw [nrm_calm hC.fuse] at this
      exact this
    rw [efu] at hfu
    have hfr := fun W (h : Both W0 W b sb mb lo r rlo (nrm (fuseR d a.fuse)) d) => h.fuseR a.fuse HF.out.2.1
    have hrl : (fuseR d a.fuse).stand.length = n := hC.len
    have hro : (fuseR d a.fuse).ops ≤ 50 := hC.ops
    have hrw : (fuseR d a.fuse).waits.length = 0 := by show d.waits.length = 0; rw [hW]; rfl
    have hsbw : w.heap.size ≤ sb := by have := hB.alone.hsb; have := kW.size; omega
    obtain ⟨q0, q1, q2⟩ : (∃ p c p' c', w2.cell? ⟨r, 0, none⟩ = some (.slice p d.stand.length c) ∧ w2.cell? ⟨r, 1, none⟩ = some (.slice p' d.waits.length c')) ∧ True ∧ True := ⟨by obtain ⟨p, c, p', c', x0, x1, _⟩ := hB.ref.five; exact ⟨p, c, p', c', x0, x1⟩, trivial, trivial⟩
    clear q0 q1 q2
    have HKW := Lib.hid kW
    have HFU := Lib.hid hfu
    have HFR := Lib.hid hfr
    have HB2 := Lib.hid hB
    clear hfu hfr hB hC hW efu HL kW
    generalize fuseR d a.fuse = rd at *
    have hap := fun W (h : Both W0 W b sb mb lo r rlo (nrm rd) rd) => jappend (bothOps W0 b sb mb lo r rlo rd) h a.j a.u a.s HF.out.2.2.1 HF.out.2.2.2.1 (by omega) (by show rd.ops ≤ 40000; omega) (by show rd.waits.length ≤ 5000; omega)
    unfold AppSays appendN at hap
    rw [appendD_nrm] at hap
    have HAP := Lib.hid hap
    have RD : Hid (rd.stand.length = n ∧ rd.ops ≤ 50 ∧ rd.waits.length = 0) := ⟨hrl, hro, hrw⟩
    clear hap hrl hro hrw
    obtain ⟨c0, c1, c2, c3, c4, c5, c6⟩ := HCS.out w2 (HKW.out.trans HB2.out.alone.kept)
    go_wp2_with fail
    refine HFU.out.mono ?_; rintro e w3 ⟨rfl, hB3, _⟩
    obtain ⟨c0, c1, c2, c3, c4, c5, c6⟩ := HCS.out w3 (HKW.out.trans hB3.alone.kept)
    obtain ⟨v0, v1, orr⟩ := hB3.ref.own
    have z2 := orr.free 2
    have y2 := orr.cell 2 (by simp)
    have hB4 := HFR.out _ hB3
    obtain ⟨f0, f1, f2, f3, f4, f5, f6⟩ := HCS.out _ (HKW.out.trans hB4.alone.kept)
    have HB4 := Lib.hid hB4
    clear hB3 HB2 HFU HFR orr hB4
    simp only [List.getElem_toArray, List.getElem_cons_succ, List.getElem_cons_zero] at y2
    have hzs : ((bs a.s).size : Int) = a.s.length := HZ.out
    by_cases hfit : fitCode n a.j a.u = 0
    · obtain ⟨g1, g2, g3, g4⟩ := fit_ok hfit
      have hf0 : fitCode rd.stand.length a.j a.u = 0 := by rw [RD.out.1]; exact hfit
      have hn40 := N12.out.2
      by_cases hfull : 128 * a.j - a.u < a.s.length
      · have hX : appendD rd a.j a.u a.s = (rd, 100) := by
          unfold appendD
          rw [if_neg (by omega), if_pos hfull]
        have hap4 : ∀ W, Both W0 W b sb mb lo r rlo (nrm rd) rd → Calls Try.prog 16 #[.pointer (some ⟨b, 0, none⟩), .int .i64 a.j, .int .i64 a.u, .string (bs a.s)] W fun e w' => e = .returned (.tuple #[.int .i64 0, .int .i64 100]) ∧ Both W0 w' b sb mb lo r rlo (nrm rd) rd := fun W hW => by
          have := HAP.out W hW
          rw [hX] at this
          exact this
        have HAP4 := Lib.hid (hap4 _ HB4.out)
        have hft := fun W => HFT.out W
        rw [hfit] at hft
        have HFT2 := Lib.hid hft
        have hfull' : a.j * 128 - a.u < ((bs a.s).size : Int) := by omega
        have hj1 : a.j * 128 ≤ 6000 := by omega
        have hj2 : 0 ≤ a.j * 128 := by omega
        have hj3 : a.u ≤ a.j * 128 := by omega
        have hf00 : ((0 : Int) == 0) = true := rfl
        clear hap4 HAP hX hfull hft hfit hf0 HFT hzs
        generalize bs a.s = SB at *
        go_wp2_with fail
        refine HAP4.out.mono ?_; rintro e w5 ⟨rfl, hB5⟩
        have HB6 := Lib.hid hB5
        obtain ⟨c0, c1, c2, c3, c4, c5, c6⟩ := HCS.out w5 (HKW.out.trans hB5.alone.kept)
        obtain ⟨p, cc, p', cc', r0, r1, r2, r3, r4, _⟩ := hB5.ref.five
        have hrw := hB5.lt'.2.2.2
        have hops : ∀ W, Both W0 W b sb mb lo r rlo (nrm rd) rd → Calls Try.prog 29 #[.pointer (some ⟨b, 0, none⟩)] W fun e w' => e = .returned (.int .i64 rd.ops) ∧ W = w' := fun W hW => dOps b sb mb lo (nrm rd) W hW.alone.disk
        have HOPS := Lib.hid hops
        have hk5 := (k01.trans HKW.out).trans hB5.alone.kept
        clear hops hB5 HAP4 r0 r1 r2 r4
        go_wp2_with fail
        refine (HFT2.out _).mono ?_; rintro e w' ⟨rfl, rfl⟩
        go_wp2_with fail
        go_region_held3 (fun W => W.cell? ⟨r, 3, none⟩ = some (.int .i64 rd.ops)) (go_keep)
          (first | (go_at_call 29; ((with_reducible refine (HOPS.out _ ?_).mono ?_)); (first | exact HB6.out | exact HB6.out.drew); rintro e w' ⟨rfl, rfl⟩) | (go_at_call 9; ((with_reducible refine (HAW.out _).mono ?_)); rintro e w8 ⟨rfl, k8⟩; have x3 := (k8.cell (a := ⟨r, 3, none⟩) (by exact hrw) (by simp)).trans r3))
        all_goals go_wp2_with fail
        all_goals go_ret
        all_goals exact ⟨rfl, (hk5.trans (by first | exact k8 | exact ((Kept.refl _ _).drew).trans k8)).below⟩
      · obtain ⟨x, C, hX⟩ : ∃ x C, appendD rd a.j a.u a.s = (x, C) := ⟨_, _, rfl⟩
        have hfew := append_few rd a.j a.u a.s
        have hxl : x.stand.length = rd.stand.length := by
          have h2 := appendD_stand HB4.out.rfit a.j a.u a.s
          rw [hX] at h2
          rw [h2]
        rw [hX] at hfew
        have hap4 : ∀ W, Both W0 W b sb mb lo r rlo (nrm rd) rd → Calls Try.prog 16 #[.pointer (some ⟨b, 0, none⟩), .int .i64 a.j, .int .i64 a.u, .string (bs a.s)] W fun e w' => e = .returned (.tuple #[.int .i64 (if C = 0 then a.u + a.s.length else 0), .int .i64 C]) ∧ Both W0 w' b sb mb lo r rlo (nrm x) rd := fun W hW => by
          have := HAP.out W hW
          rw [hX] at this
          exact this
        have hqa : ∀ W, Both W0 W b sb mb lo r rlo (nrm x) rd → Calls Try.prog 30 #[.pointer (some ⟨r, 0, none⟩), .int .i64 a.u, .string (bs a.s)] W fun e w' => e = .returned (.int .i64 C) ∧ Both W0 w' b sb mb lo r rlo (nrm x) x := fun W hW => by
          have := qappend (bothQ W0 b sb mb lo r rlo (nrm x)) hW a.j a.u a.s hf0 hfull (by omega) (by have := RD.out.2.1; omega) (by have := RD.out.2.2; omega)
          unfold QAppSays at this
          rw [hX] at this
          exact this
        have hfx : fitCode x.stand.length a.j a.u = 0 := by rw [hxl]; exact hf0
        have hld : ∀ W, Both W0 W b sb mb lo r rlo (nrm x) x → Calls Try.prog 15 #[.pointer (some ⟨b, 0, none⟩), .int .i64 a.j, .int .i64 a.u] W fun e w' => e = .returned (.tuple #[.string (bs (loadL x a.j a.u)), .int .i64 (loadCode x a.j a.u)]) ∧ W = w' := fun W hW =>
          jloadG (bothOps W0 b sb mb lo r rlo x) hW a.j a.u HF.out.2.2.1 HF.out.2.2.2.1
        have hql : ∀ W, Both W0 W b sb mb lo r rlo (nrm x) x → Calls Try.prog 33 #[.pointer (some ⟨r, 0, none⟩), .int .i64 a.u] W fun e w' => e = .returned (.tuple #[.string (bs (loadL x a.j a.u)), .int .i64 (loadCode x a.j a.u)]) ∧ W = w' := fun W hW =>
          qload (bothQ W0 b sb mb lo r rlo (nrm x)) hW a.j a.u hfx
        have hpw : ∀ W, Both W0 W b sb mb lo r rlo (nrm x) x → Calls Try.prog 27 #[.pointer (some ⟨b, 0, none⟩), .slice pk nk ck] W fun e w' => e = .returned (.tuple #[]) ∧ Both W0 w' b sb mb lo r rlo (nrm (powerD x a.keep)) x := fun W hW =>
          (hW.dPower (.slice pk nk ck) a.keep 0 w.heap.size (HK.out.kept ((k01.trans HKW.out).trans hW.alone.kept) (fun y hy => by cases hy)) (Or.inr hsbw) (by show x.waits.length ≤ 10000; have := RD.out.2.2; simp only at hfew; omega)).mono fun e w' hh => ⟨hh.1, hh.2.1⟩
        have hqp : ∀ W, Both W0 W b sb mb lo r rlo (nrm (powerD x a.keep)) x → Calls Try.prog 34 #[.pointer (some ⟨r, 0, none⟩), .slice pk nk ck] W fun e w' => e = .returned (.tuple #[]) ∧ Both W0 w' b sb mb lo r rlo (nrm (powerD x a.keep)) (powerD x a.keep) := fun W hW =>
          (hW.qPower (.slice pk nk ck) a.keep 0 w.heap.size (HK.out.kept ((k01.trans HKW.out).trans hW.alone.kept) (fun y hy => by cases hy))).mono fun e w' hh => ⟨hh.1, hh.2.1⟩
        have him : ∀ W, Both W0 W b sb mb lo r rlo (nrm (powerD x a.keep)) (powerD x a.keep) → Calls Try.prog 35 #[.pointer (some ⟨b, 0, none⟩)] W fun e w' => e = .returned (.string (bs (powerD x a.keep).stand.flatten)) ∧ Both W0 w' b sb mb lo r rlo (nrm (powerD x a.keep)) (powerD x a.keep) := fun W hW =>
          hW.dImage.mono fun e w' hh => ⟨hh.1, hh.2.1⟩
        have hqi : ∀ W, Both W0 W b sb mb lo r rlo (nrm (powerD x a.keep)) (powerD x a.keep) → Calls Try.prog 36 #[.pointer (some ⟨r, 0, none⟩)] W fun e w' => e = .returned (.string (bs (powerD x a.keep).stand.flatten)) ∧ W = w' := fun W hW => hW.qImage
        have hops : ∀ W, Both W0 W b sb mb lo r rlo (nrm x) x → Calls Try.prog 29 #[.pointer (some ⟨b, 0, none⟩)] W fun e w' => e = .returned (.int .i64 x.ops) ∧ W = w' := fun W hW => dOps b sb mb lo (nrm x) W hW.alone.disk
        have hwts : ∀ W, Both W0 W b sb mb lo r rlo (nrm x) x → Calls Try.prog 31 #[.pointer (some ⟨b, 0, none⟩)] W fun e w' => e = .returned (.int .i64 x.waits.length) ∧ W = w' := fun W hW => dWaits b sb mb lo (nrm x) W hW.alone.disk
        have hdwn : ∀ W, Both W0 W b sb mb lo r rlo (nrm x) x → Calls Try.prog 32 #[.pointer (some ⟨b, 0, none⟩)] W fun e w' => e = .returned (.bool x.down) ∧ W = w' := fun W hW => dDown b sb mb lo (nrm x) W hW.alone.disk
        have HAP4 := Lib.hid (hap4 _ HB4.out)
        have hft := fun W => HFT.out W
        rw [hfit] at hft
        have HFT2 := Lib.hid hft
        have hfull' : ((bs a.s).size : Int) ≤ a.j * 128 - a.u := by omega
        have hj1 : a.j * 128 ≤ 6000 := by omega
        have hj2 : 0 ≤ a.j * 128 := by omega
        have hj3 : a.u ≤ a.j * 128 := by omega
        have hf00 : ((0 : Int) == 0) = true := rfl
        have hsz3 : ((bs a.s).size : Int) ≤ 3000 ∧ 0 ≤ ((bs a.s).size : Int) := by omega
        obtain ⟨N, hN⟩ : ∃ N, (if C = 0 then a.u + (a.s.length : Int) else 0) = N := ⟨_, rfl⟩
        have hN1 : C = 0 → a.u + ((bs a.s).size : Int) = N := fun h => by rw [← hN, if_pos h, hzs]
        have hN2 : C ≠ 0 → N = 0 := fun h => by rw [← hN, if_neg h]
        have HQA := Lib.hid hqa
        have HLD := Lib.hid hld
        have HQL := Lib.hid hql
        have HPW := Lib.hid hpw
        have HQP := Lib.hid hqp
        have HIM := Lib.hid him
        have HQI := Lib.hid hqi
        have HOPS := Lib.hid hops
        have HWTS := Lib.hid hwts
        have HDWN := Lib.hid hdwn
        have HN1 := Lib.hid hN1
        have HN2 := Lib.hid hN2
        rw [hN] at HAP4
        clear hap4 HAP hX hfull hft hfit hf0 HFT hzs hqa hld hql hpw hqp him hqi hops hwts hdwn hfew hxl hfx hN hN1 hN2
        generalize powerD x a.keep = y at *
        generalize loadL x a.j a.u = LL at *
        generalize loadCode x a.j a.u = LC at *
        generalize bs a.s = SB at *
        go_wp2_with fail
        refine HAP4.out.mono ?_; rintro e w5 ⟨rfl, hB5⟩
        obtain ⟨c0, c1, c2, c3, c4, c5, c6⟩ := HCS.out w5 (HKW.out.trans hB5.alone.kept)
        have HQA5 := Lib.hid (HQA.out _ hB5)
        clear hB5 HAP4 HQA
        go_wp2_with fail
        refine (HFT2.out _).mono ?_; rintro e w' ⟨rfl, rfl⟩
        clear HFT2
        go_wp2_with fail
        refine HQA5.out.mono ?_; rintro e w6 ⟨rfl, hB6⟩
        have HB6 := Lib.hid hB6
        obtain ⟨c0, c1, c2, c3, c4, c5, c6⟩ := HCS.out w6 (HKW.out.trans hB6.alone.kept)
        obtain ⟨p, cc, p', cc', r0, r1, r2, r3, r4, _⟩ := hB6.ref.five
        clear hB6 HQA5 r0 r2
        go_upto_if 131 with fail
        go_cut [11] (fun v11 wx => v11 = .int .i64 N ∧ wx = w6)
        case first =>
          by_cases hC : C = 0
          · have e1 := HN1.out hC
            subst hC
            go_wp2_with fail
            go_meet
            exact ⟨by rw [← e1], rfl⟩
          · have e1 := HN2.out hC
            have hC1 : (C == 0) = false := by simpa using hC
            have hC2 : (C != 0) = true := by simpa using hC
            go_wp2_with fail
            go_meet
            exact ⟨by rw [e1], rfl⟩
        case rest =>
          obtain ⟨rfl, rfl⟩ := hcut
          generalize x.waits.length = xw at *
          generalize x.ops = xo at *
          generalize x.down = xd at *
          go_upto_region 18 with fail
          go_cut [167] (fun v167 wx => v167 = .bool false ∧ Kept [] wc wx)
          case first =>
            go_region_held3 (fun W => W.cell? ⟨r, 1, none⟩ = some (.slice p' xw cc') ∧ W.cell? ⟨r, 3, none⟩ = some (.int .i64 xo) ∧ W.cell? ⟨r, 4, none⟩ = some (.bool xd)) (go_keep)
              (first | (go_at_call 29; ((with_reducible refine (HOPS.out _ ?_).mono ?_)); (first | exact HB6.out | exact HB6.out.drew); rintro e w' ⟨rfl, rfl⟩) | (go_at_call 31; ((with_reducible refine (HWTS.out _ ?_).mono ?_)); (first | exact HB6.out | exact HB6.out.drew); rintro e w' ⟨rfl, rfl⟩) | (go_at_call 32; ((with_reducible refine (HDWN.out _ ?_).mono ?_)); (first | exact HB6.out | exact HB6.out.drew); rintro e w' ⟨rfl, rfl⟩))
            all_goals go_wp2_with fail
            all_goals go_meet
            all_goals exact ⟨by first | rfl | simp, (Kept.refl _ _).drew⟩
          case rest =>
            obtain ⟨rfl, hk⟩ := hcut
            have hB7 := HB6.out.keep0 hk
            obtain ⟨c0, c1, c2, c3, c4, c5, c6⟩ := HCS.out _ (HKW.out.trans hB7.alone.kept)
            have HLD7 := Lib.hid (HLD.out _ hB7)
            have HQL7 := Lib.hid (HQL.out _ hB7)
            have HPW7 := Lib.hid (HPW.out _ hB7)
            clear hB7 HLD HQL HPW r1 r3 r4
            go_wp2_with fail
            refine HLD7.out.mono ?_; rintro e w' ⟨rfl, rfl⟩
            go_wp2_with fail
            refine HQL7.out.mono ?_; rintro e w' ⟨rfl, rfl⟩
            go_wp2_with fail
            refine HPW7.out.mono ?_; rintro e w8 ⟨rfl, hB8⟩
            obtain ⟨c0, c1, c2, c3, c4, c5, c6⟩ := HCS.out _ (HKW.out.trans hB8.alone.kept)
            have HQP8 := Lib.hid (HQP.out _ hB8)
            clear hB8 HQP
            go_wp2_with fail
            refine HQP8.out.mono ?_; rintro e w9 ⟨rfl, hB9⟩
            have HIM9 := Lib.hid (HIM.out _ hB9)
            clear hB9 HIM
            go_wp2_with fail
            refine HIM9.out.mono ?_; rintro e w10 ⟨rfl, hB10⟩
            have HQI10 := Lib.hid (HQI.out _ hB10)
            have hk10 := (k01.trans HKW.out).trans hB10.alone.kept
            clear hB10 HQI
            go_wp2_with fail
            refine HQI10.out.mono ?_; rintro e w' ⟨rfl, rfl⟩
            go_wp2_with fail
            refine (HAW.out _).mono ?_; rintro e w11 ⟨rfl, k11⟩
            go_wp2_with fail
            go_ret
            exact ⟨rfl, (hk10.trans k11).below⟩
    · have hX : appendD rd a.j a.u a.s = (rd, 1) := by
        unfold appendD
        rw [RD.out.1, if_pos hfit]
      have hap4 : ∀ W, Both W0 W b sb mb lo r rlo (nrm rd) rd → Calls Try.prog 16 #[.pointer (some ⟨b, 0, none⟩), .int .i64 a.j, .int .i64 a.u, .string (bs a.s)] W fun e w' => e = .returned (.tuple #[.int .i64 0, .int .i64 1]) ∧ Both W0 w' b sb mb lo r rlo (nrm rd) rd := fun W hW => by
        have := HAP.out W hW
        rw [hX] at this
        exact this
      have HAP4 := Lib.hid (hap4 _ HB4.out)
      have hft := fun W => HFT.out W
      have hfb : (fitCode n a.j a.u == 0) = false := by simpa using hfit
      rw [hfb] at hft
      have HFT2 := Lib.hid hft
      have hld : ∀ W, Both W0 W b sb mb lo r rlo (nrm rd) rd → Calls Try.prog 15 #[.pointer (some ⟨b, 0, none⟩), .int .i64 a.j, .int .i64 a.u] W fun e w' => e = .returned (.tuple #[.string { data := #[] }, .int .i64 1]) ∧ W = w' := fun W hW => by
        have h1 := jloadG (bothOps W0 b sb mb lo r rlo rd) hW a.j a.u HF.out.2.2.1 HF.out.2.2.2.1
        have e1 : loadCode (nrm rd) a.j a.u = 1 := by
          unfold loadCode
          rw [if_pos (by show fitCode rd.stand.length a.j a.u ≠ 0; rw [RD.out.1]; exact hfit)]
        have e2 : loadL (nrm rd) a.j a.u = [] := by unfold loadL; rw [e1]; rfl
        rw [e1, e2] at h1
        exact h1
      have HLD := Lib.hid hld
      clear hap4 HAP hX hft hfit hfb HFT hzs hld
      go_wp2_with fail
      refine HAP4.out.mono ?_; rintro e w5 ⟨rfl, hB5⟩
      have HB6 := Lib.hid hB5
      obtain ⟨c0, c1, c2, c3, c4, c5, c6⟩ := HCS.out w5 (HKW.out.trans hB5.alone.kept)
      obtain ⟨p, cc, p', cc', r0, r1, r2, r3, r4, _⟩ := hB5.ref.five
      have hrw := hB5.lt'.2.2.2
      have hops : ∀ W, Both W0 W b sb mb lo r rlo (nrm rd) rd → Calls Try.prog 29 #[.pointer (some ⟨b, 0, none⟩)] W fun e w' => e = .returned (.int .i64 rd.ops) ∧ W = w' := fun W hW => dOps b sb mb lo (nrm rd) W hW.alone.disk
      have HOPS := Lib.hid hops
      have HLD5 := Lib.hid (HLD.out _ hB5)
      have hk5 := (k01.trans HKW.out).trans hB5.alone.kept
      clear hops hB5 HAP4 r0 r1 r2 r4 HLD
      go_wp2_with fail
      refine (HFT2.out _).mono ?_; rintro e w' ⟨rfl, rfl⟩
      go_wp2_with fail
      refine HLD5.out.mono ?_; rintro e w' ⟨rfl, rfl⟩
      go_wp2_with fail
      go_region_held3 (fun W => W.cell? ⟨r, 3, none⟩ = some (.int .i64 rd.ops)) (go_keep)
        (first | (go_at_call 29; ((with_reducible refine (HOPS.out _ ?_).mono ?_)); (first | exact HB6.out | exact HB6.out.drew); rintro e w' ⟨rfl, rfl⟩) | (go_at_call 9; ((with_reducible refine (HAW.out _).mono ?_)); rintro e w8 ⟨rfl, k8⟩; have x3 := (k8.cell (a := ⟨r, 3, none⟩) (by exact hrw) (by simp)).trans r3))
      all_goals go_wp2_with fail
      all_goals go_ret
      all_goals exact ⟨rfl, (hk5.trans (by first | exact k8 | exact ((Kept.refl _ _).drew).trans k8)).below⟩
end Go.Proofs.Ytegbekeopgponaa
