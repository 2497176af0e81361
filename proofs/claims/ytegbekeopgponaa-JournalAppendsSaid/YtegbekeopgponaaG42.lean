/- Layer 13 (journal): what stood ahead stands, whatever is lost of what was appended. -/
import Derived.Test.YtegbekeopgponaaG41
namespace Go.Proofs.Ytegbekeopgponaa
open Go.RowKit
set_option linter.unusedVariables false
set_option linter.unusedSimpArgs false

theorem app_few (n : Nat) : ∀ (d : DK) (a : Nat) (s : List UInt8), s.length ≤ n → (appAll d a s).1.waits.length ≤ d.waits.length + s.length ∧ (appAll d a s).1.ops ≤ d.ops + s.length := by
  induction n with
  | zero =>
    intro d a s hs
    have : s = [] := List.eq_nil_of_length_eq_zero (by omega)
    subst this
    exact ⟨Nat.le_refl _, Nat.le_refl _⟩
  | succ n ih =>
    intro d a s hs
    by_cases h0 : s = []
    · subst h0
      exact ⟨Nat.le_refl _, Nat.le_refl _⟩
    · have hl : 0 < s.length := List.length_pos_iff.2 h0
      obtain ⟨w1, w2, _⟩ := wNext_ops d (a : Int) (chunk s)
      rw [appAll_step h0]
      split
      · have := ih (wNext d a (chunk s)) (a + 1) (s.drop 128) (by rw [List.length_drop]; omega)
        rw [List.length_drop] at this
        omega
      · simp only
        omega
theorem append_few (d : DK) (j u : Int) (S : List UInt8) : (appendD d j u S).1.waits.length ≤ d.waits.length + 128 + S.length ∧ (appendD d j u S).1.ops ≤ d.ops + 128 + S.length := by
  unfold appendD
  split
  · simp only; omega
  · split
    · simp only; omega
    · split
      · simp only; omega
      · split
        · simp only; omega
        · have h := app_few _ d (2 + u.toNat / 128) ((seen d (2 + u.toNat / 128)).take (u.toNat % 128) ++ S) (Nat.le_refl _)
          have h2 : ((seen d (2 + u.toNat / 128)).take (u.toNat % 128)).length ≤ 128 := by rw [List.length_take]; omega
          rw [List.length_append] at h
          omega
set_option maxRecDepth 100000 in
set_option maxHeartbeats 8000000 in
theorem aheadLaw (a : JCase) (vb vk : Value) (w : World) (hb : BytesIn w vb a.bytes 0 w.heap.size) (hk : BoolsIn w vk a.keep 0 w.heap.size) (hf : a.fits) :
    Calls Try.prog 7 #[.agg (a.cells vb vk)] w fun e w' => e = .returned (.bool true) ∧ Below w.heap.size w w' := by
  have hsk : ∃ pk nk ck, vk = .slice pk nk ck := by
    rcases hk with ⟨_, x, c, rfl⟩ | ⟨b, off, c, rfl, _⟩
    · exact ⟨_, _, _, rfl⟩
    · exact ⟨_, _, _, rfl⟩
  have haw := fun W => jawake W
  have hbig := fun W (k : Kept [] w W) => jbig a vb vk W _ _ _ _ (hb.kept0 k) (hk.kept k (fun x hx => by cases hx))
  have hlaid := fun W (n : Nat) (k : Kept [] w W) (hn : a.n = n) (h1 : 1 ≤ n) (h2 : n ≤ 40) => jlaid a vb vk n _ W (hb.kept0 k) hn h1 h2 hsk
  have HB := Lib.hid hbig
  have HLAID := Lib.hid hlaid
  have HAW := Lib.hid haw
  have HF := Lib.hid hf
  have HK := Lib.hid hk
  clear haw hbig hlaid hf hk
  obtain ⟨pb, cb, rfl⟩ := hb.shape
  obtain ⟨pk, nk, ck, rfl⟩ := hsk
  clear hb
  have o0 := Own.new w (a.cells (.slice pb a.bytes.length cb) (.slice pk nk ck)) 39
  have k0 : Kept [] w (w.alloc (.cells (a.cells (.slice pb a.bytes.length cb) (.slice pk nk ck)) 39)) := (Kept.refl _ _).alloc _
  unfold JCase.cells at *
  have OO := Lib.hid o0
  have KK := Lib.hid k0
  clear o0 k0
  have hz : ((bs a.s).size : Int) = a.s.length := by rw [bs_size]
  have HZ := Lib.hid hz
  clear hz
  go_enter Try.func7, Try.ntmps7
  go_wp2_with fail
  refine (HB.out _ KK.out).mono ?_; rintro e w1 ⟨k1, hc⟩
  have k01 := KK.out.trans k1
  have o1 := k1.own OO.out (by simp)
  clear HB
  rcases hc with rfl | ⟨rfl, n1, n2, s3, kp⟩
  · go_wp2_with fail
    refine (HAW.out _).mono ?_; rintro e w2 ⟨rfl, k2⟩
    go_wp2_with fail
    go_ret
    exact ⟨rfl, (k01.trans k2).below⟩
  · obtain ⟨n, hn⟩ := Int.eq_ofNat_of_zero_le (show 0 ≤ a.n by omega)
    have hnn : a.n = (n : Int) := hn
    rw [hnn] at n1 n2 o1 OO KK ⊢
    have hft := qfits n a.j a.u w1 (by omega) HF.out.2.2.1 HF.out.2.2.2.1
    have HFT := Lib.hid hft
    obtain ⟨c0, c1, c2, c3, c4, c5, c6⟩ : w1.cell? ⟨w.heap.size, 0, none⟩ = some (.int .i64 (n : Int)) ∧ w1.cell? ⟨w.heap.size, 1, none⟩ = some (.slice pb a.bytes.length cb) ∧ w1.cell? ⟨w.heap.size, 2, none⟩ = some (.int .i64 a.fuse) ∧ w1.cell? ⟨w.heap.size, 3, none⟩ = some (.int .i64 a.j) ∧ w1.cell? ⟨w.heap.size, 4, none⟩ = some (.int .i64 a.u) ∧ w1.cell? ⟨w.heap.size, 5, none⟩ = some (.string (bs a.s)) ∧ w1.cell? ⟨w.heap.size, 6, none⟩ = some (.slice pk nk ck) := ⟨o1.cell 0 (by simp), o1.cell 1 (by simp), o1.cell 2 (by simp), o1.cell 3 (by simp), o1.cell 4 (by simp), o1.cell 5 (by simp), o1.cell 6 (by simp)⟩
    have HN := Lib.hid hnn
    have N12 : Hid (1 ≤ n ∧ n ≤ 40) := ⟨by omega, by omega⟩
    have O1 := Lib.hid o1
    clear hft hn hnn n1 n2 o1
    by_cases hfit : fitCode n a.j a.u = 0
    · rw [hfit] at HFT
      have hcs : ∀ W, Kept [] w1 W → W.cell? ⟨w.heap.size, 0, none⟩ = some (.int .i64 (n : Int)) ∧ W.cell? ⟨w.heap.size, 1, none⟩ = some (.slice pb a.bytes.length cb) ∧ W.cell? ⟨w.heap.size, 2, none⟩ = some (.int .i64 a.fuse) ∧ W.cell? ⟨w.heap.size, 3, none⟩ = some (.int .i64 a.j) ∧ W.cell? ⟨w.heap.size, 4, none⟩ = some (.int .i64 a.u) ∧ W.cell? ⟨w.heap.size, 5, none⟩ = some (.string (bs a.s)) ∧ W.cell? ⟨w.heap.size, 6, none⟩ = some (.slice pk nk ck) := fun W k => by
        have o := k.own O1.out (by simp)
        exact ⟨o.cell 0 (by simp), o.cell 1 (by simp), o.cell 2 (by simp), o.cell 3 (by simp), o.cell 4 (by simp), o.cell 5 (by simp), o.cell 6 (by simp)⟩
      have HCS := Lib.hid hcs
      have hl := HLAID.out w1 n k01 HN.out N12.out.1 N12.out.2
      rw [HN.out] at hl
      have HL := Lib.hid hl
      have HFIT := Lib.hid hfit
      have hf00 : ((0 : Int) == 0) = true := rfl
      have hws : w.heap.size ≤ w1.heap.size := k01.size
      clear hcs hl HLAID hfit
      go_wp2_with fail
      refine HFT.out.mono ?_; rintro e w' ⟨rfl, rfl⟩
      clear HFT
      go_wp2_with fail
      refine HL.out.mono ?_; rintro e w2 ⟨W0, b, sb, mb, lo, r, rlo, d, rfl, hB, kW, hC, hW⟩
      have hA := hB.alone
      have hf0 : fitCode d.stand.length a.j a.u = 0 := by rw [hC.len]; exact HFIT.out
      have hl1 := jloadG (aloneOps W0 b sb mb lo) hA a.j a.u HF.out.2.2.1 HF.out.2.2.2.1
      rw [load_ok hf0 hC.down] at hl1
      have hfu := hA.fuse a.fuse HF.out.2.1
      have hap := fun W (h : Alone W0 W b sb mb lo (fuseD d a.fuse)) => jappend (aloneOps W0 b sb mb lo) h a.j a.u a.s HF.out.2.2.1 HF.out.2.2.2.1 (by have := s3; omega) (by show d.ops ≤ 40000; have := hC.ops; omega) (by show d.waits.length ≤ 5000; rw [hW]; exact Nat.zero_le _)
      have hfew := append_few (fuseD d a.fuse) a.j a.u a.s
      have hahead := fun keep => ahead_plain hA.fit hW hC.down a.s a.fuse keep hf0
      obtain ⟨d2, q1, q2, q3, q4, q5, q6, q7⟩ := hahead a.keep
      have q8 : d2.ops ≤ 3300 := by
        rw [← q1]
        show (appendD (fuseD d a.fuse) a.j a.u a.s).1.ops ≤ 3300
        have h1 : (fuseD d a.fuse).ops = d.ops := rfl
        have := hC.ops
        omega
      have hwf : (appendD (fuseD d a.fuse) a.j a.u a.s).1.waits.length ≤ 10000 := by
        have h1 : (fuseD d a.fuse).waits.length = 0 := by show d.waits.length = 0; rw [hW]; rfl
        omega
      have hsbw : w.heap.size ≤ sb := by have := hA.hsb; have := kW.size; omega
      have hpw := fun W (h : Alone W0 W b sb mb lo (appendD (fuseD d a.fuse) a.j a.u a.s).1) => h.power (.slice pk nk ck) a.keep 0 w.heap.size (HK.out.kept ((k01.trans kW).trans h.kept) (fun x hx => by cases hx)) (Or.inr hsbw) hwf
      have hf2 : fitCode d2.stand.length a.j a.u = 0 := by rw [q2]; exact hf0
      have hl2 := fun W (h : Alone W0 W b sb mb lo d2) => jloadG (aloneOps W0 b sb mb lo) h a.j a.u HF.out.2.2.1 HF.out.2.2.2.1
      rw [load_ok hf2 q4, q7] at hl2
      have hap2 := fun W (h : Alone W0 W b sb mb lo d2) => jappend (aloneOps W0 b sb mb lo) h a.j a.u a.s HF.out.2.2.1 HF.out.2.2.2.1 (by have := s3; omega) (by omega) (by rw [q6]; exact Nat.zero_le _)
      have hbeh := behind_plain q3 q4 (by rw [q5]; decide) a.s hf2
      have hll := load_len hA.fit hf0 hC.down
      unfold AppSays at hap hap2
      rw [q1] at hpw
      rw [q7] at hbeh
      have hlen : ((bs (loadL d a.j a.u)).size : Int) = a.u := by rw [bs_size]; exact hll
      have hll2 : (loadL d a.j a.u).length ≤ 1048576 := by obtain ⟨g1, g2, g3, g4⟩ := fit_ok hf0; obtain ⟨g5, g6⟩ := hA.len; omega
      have hbn : ((0 : Int) != 0) = false := rfl
      have HL1 := Lib.hid hl1
      have HFU := Lib.hid hfu
      have HAP := Lib.hid hap
      have HPW := Lib.hid hpw
      have HL2 := Lib.hid hl2
      have HAP2 := Lib.hid hap2
      have HBEH := Lib.hid hbeh
      have HLL2 := Lib.hid hll2
      have HA := Lib.hid hA
      have HKW := Lib.hid kW
      have HD2 : Hid (Fit d2 ∧ d2.down = false ∧ d2.fuse = -1 ∧ d2.waits = [] ∧ d2.ops ≤ 3300 ∧ fitCode d2.stand.length a.j a.u = 0) := ⟨q3, q4, q5, q6, q8, hf2⟩
      clear hl1 hfu hap hpw hl2 hap2 hbeh hB hA hC hW hf0 hf2 hll hahead hfew hwf q1 q2 q3 q4 q5 q6 q7 q8 hll2 HFIT HL
      generalize loadL d a.j a.u = L at *
      obtain ⟨c0, c1, c2, c3, c4, c5, c6⟩ := HCS.out w2 (HKW.out.trans HA.out.kept)
      go_wp2_with fail
      refine HL1.out.mono ?_; rintro e w' ⟨rfl, rfl⟩
      go_wp2_with fail
      refine HFU.out.mono ?_; rintro e w3 ⟨rfl, hA3, _⟩
      have hap3 := HAP.out _ hA3
      have HAP3 := Lib.hid hap3
      obtain ⟨c0, c1, c2, c3, c4, c5, c6⟩ := HCS.out w3 (HKW.out.trans hA3.kept)
      clear hap3 HAP hA3 HL1 HFU
      go_wp2_with fail
      refine HAP3.out.mono ?_; rintro e w4 ⟨rfl, hA4⟩
      have hp4 := HPW.out _ hA4
      have HP4 := Lib.hid hp4
      obtain ⟨c0, c1, c2, c3, c4, c5, c6⟩ := HCS.out w4 (HKW.out.trans hA4.kept)
      clear hp4 HPW hA4 HAP3
      go_wp2_with fail
      refine HP4.out.mono ?_; rintro e w5 ⟨rfl, hA5, _⟩
      have hl5 := HL2.out _ hA5
      have ha5 := HAP2.out _ hA5
      have HL5 := Lib.hid hl5
      have HA5 := Lib.hid ha5
      have HAA := Lib.hid hA5
      obtain ⟨c0, c1, c2, c3, c4, c5, c6⟩ := HCS.out w5 (HKW.out.trans hA5.kept)
      clear hl5 ha5 HL2 HAP2 hA5 HP4
      go_wp2_with fail
      refine HL5.out.mono ?_; rintro e w' ⟨rfl, rfl⟩
      clear HL5
      rcases HBEH.out with ⟨hfull, h100⟩ | ⟨d', e1, e2, e3, e4, e5, e6, e7⟩
      · have en : appendN d2 a.j a.u a.s = 0 := by unfold appendN; rw [h100]; rfl
        rw [h100, en] at HA5
        clear HBEH hfull h100 en
        go_wp2_with fail
        refine HA5.out.mono ?_; rintro e w6 ⟨rfl, hA6⟩
        have hk6 := ((k01.trans HKW.out).trans hA6.kept)
        clear hA6 HA5
        go_wp2_with fail
        refine (HAW.out _).mono ?_; rintro e w7 ⟨rfl, k7⟩
        go_wp2_with fail
        go_ret
        exact ⟨rfl, (hk6.trans k7).below⟩
      · have en : appendN d2 a.j a.u a.s = a.u + a.s.length := by unfold appendN; rw [e1]; rfl
        have hfew2 := append_few d2 a.j a.u a.s
        rw [e1] at hfew2
        rw [e1, en] at HA5
        obtain ⟨g1, g2, g3, g4, g5, g6⟩ := HD2.out
        rw [g4] at hfew2
        simp only [List.length_nil] at hfew2
        have e6' : fitCode d'.stand.length a.j (a.u + a.s.length) = 0 := by rw [e2]; exact e6
        obtain ⟨f1, f2, f3⟩ := load_flush e3 (by rw [e4, g3]; decide) a.j (a.u + a.s.length) e6'
        have hfl := fun W (h : Alone W0 W b sb mb lo d') => h.flush (by omega) (by omega)
        rw [f1] at hfl
        have hpn := fun W (h : Alone W0 W b sb mb lo (fNext d')) => h.power (.slice none 0 0) [] 0 0 (Or.inl ⟨rfl, none, 0, rfl⟩) (Or.inr (Nat.zero_le _)) (by
          have : (fNext d').waits = [] := by
            unfold fNext
            rw [if_neg (by rw [e3]; simp), if_neg (by rw [e4, g3]; decide)]
            rfl
          rw [this]; exact Nat.zero_le _)
        obtain ⟨x1, x2, x3, x4⟩ := fit_ok e6
        have hwfn : (Lit.int .i64 (a.u + a.s.length)).wf = true := wf64 (by omega) (by obtain ⟨y1, y2⟩ := HAA.out.len; omega)
        have hl3 := fun W (h : Alone W0 W b sb mb lo (powerD (fNext d') [])) => jloadG (aloneOps W0 b sb mb lo) h a.j (a.u + a.s.length) HF.out.2.2.1 hwfn
        rw [f2, f3, e7] at hl3
        rw [show bs (L ++ a.s) = bs L ++ bs a.s from (bs_append L a.s).symm] at hl3
        have y0 : (bs L).size ≤ 1048576 := by rw [bs_size]; exact HLL2.out
        have y1 : (bs a.s).size ≤ 3000 := by rw [bs_size]; exact s3
        have yy : (bs L ++ bs a.s).size = (bs L).size + (bs a.s).size := ByteArray.size_append
        have HFL := Lib.hid hfl
        have HPN := Lib.hid hpn
        have HL3 := Lib.hid hl3
        clear HBEH e1 e2 e3 e4 e5 e6 e6' e7 en hfew2 g1 g2 g3 g4 g5 g6 f1 f2 f3 hfl hpn hl3 x1 x2 x3 x4 hwfn HD2
        generalize a.u + (a.s.length : Int) = un at *
        generalize bs L = LB at *
        generalize bs a.s = SB at *
        go_wp2_with fail
        refine HA5.out.mono ?_; rintro e w6 ⟨rfl, hA6⟩
        have hf6 := HFL.out _ hA6
        have HF6 := Lib.hid hf6
        obtain ⟨c0, c1, c2, c3, c4, c5, c6⟩ := HCS.out w6 (HKW.out.trans hA6.kept)
        clear hf6 hA6 HFL HA5
        go_wp2_with fail
        refine HF6.out.mono ?_; rintro e w7 ⟨rfl, hA7, _⟩
        have hp7 := HPN.out _ hA7
        have HP7 := Lib.hid hp7
        obtain ⟨c0, c1, c2, c3, c4, c5, c6⟩ := HCS.out w7 (HKW.out.trans hA7.kept)
        clear hp7 hA7 HPN HF6
        go_wp2_with fail
        refine HP7.out.mono ?_; rintro e w8 ⟨rfl, hA8, _⟩
        have hl8 := HL3.out _ hA8
        have HL8 := Lib.hid hl8
        have hk8 := ((k01.trans HKW.out).trans hA8.kept)
        obtain ⟨c0, c1, c2, c3, c4, c5, c6⟩ := HCS.out w8 (HKW.out.trans hA8.kept)
        clear hl8 hA8 HL3 HP7
        go_wp2_with fail
        refine HL8.out.mono ?_; rintro e w' ⟨rfl, rfl⟩
        go_wp2_with fail
        refine (HAW.out _).mono ?_; rintro e w9 ⟨rfl, k9⟩
        go_wp2_with fail
        go_ret
        exact ⟨rfl, (hk8.trans k9).below⟩
    · have hfb : (fitCode n a.j a.u == 0) = false := by simpa using hfit
      rw [hfb] at HFT
      clear hfb hfit
      go_wp2_with fail
      refine HFT.out.mono ?_; rintro e w' ⟨rfl, rfl⟩
      go_wp2_with fail
      refine (HAW.out _).mono ?_; rintro e w2 ⟨rfl, k2⟩
      go_wp2_with fail
      go_ret
      exact ⟨rfl, (k01.trans k2).below⟩
end Go.Proofs.Ytegbekeopgponaa
