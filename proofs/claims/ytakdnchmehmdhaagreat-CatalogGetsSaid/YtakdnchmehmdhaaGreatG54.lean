/- Layer 43 (catalog): the document's Get walked. -/
import Derived.Test.YtakdnchmehmdhaaGreatG23
import Derived.Test.YtakdnchmehmdhaaGreatG53
import Derived.LoopN
namespace Go.Proofs.YtakdnchmehmdhaaGreat
open Go.RowKit
set_option linter.unusedVariables false
set_option linter.unusedSimpArgs false

theorem RecsNew.at5 {w0 w : World} {v : Value} {l : List JRec} (h : RecsNew w0 w v l) (i : Nat) (hi : i < l.length) :
    ∃ b off kv c, v = .slice (some ⟨b, off, none⟩) l.length c ∧ w.cell? ⟨b, off + i * 5, none⟩ = some (.int .i64 l[i].kind) ∧ w.cell? ⟨b, off + i * 5 + 1, none⟩ = some (.int .u32 l[i].id) ∧ w.cell? ⟨b, off + i * 5 + 2, none⟩ = some (.string (bs l[i].name)) ∧ w.cell? ⟨b, off + i * 5 + 3, none⟩ = some (.int .i64 l[i].size) ∧ w.cell? ⟨b, off + i * 5 + 4, none⟩ = some kv ∧ RunsNew w0 w kv l[i].runs ∧ l[i].fits := by
  obtain ⟨vs, rfl, h2, h3⟩ := h
  have hi' : i < vs.length := by simpa using hi
  obtain ⟨g, c, rfl, g1, g2, g3, g4, g5⟩ := ownsRow_at h2 (by simp; omega)
  have hg := fun j u hj => g5 (i * 5 + j) u (reccells_get vs i hi' j u hj)
  obtain ⟨r1, r2⟩ := h3 _ (List.getElem_mem hi')
  refine ⟨g, 0, vs[i].2, c, rfl, ?_, ?_, ?_, ?_, ?_, by rw [List.getElem_map]; exact r1, by rw [List.getElem_map]; exact r2⟩
  · rw [Nat.zero_add, List.getElem_map]; exact hg 0 _ rfl
  · rw [Nat.zero_add, List.getElem_map]; exact hg 1 _ rfl
  · rw [Nat.zero_add, List.getElem_map]; exact hg 2 _ rfl
  · rw [Nat.zero_add, List.getElem_map]; exact hg 3 _ rfl
  · rw [Nat.zero_add]; exact hg 4 _ rfl
theorem take4 {s : List UInt8} (h : 16 ≤ s.length) : takeR 4 s 0 = (s.take 4, s.drop 4, 0) := by
  unfold takeR
  rw [if_neg (by simp), if_neg (by decide), if_neg (by omega)]
  rfl
set_option maxRecDepth 100000 in
set_option maxHeartbeats 16000000 in
theorem qget (s : List UInt8) (w : World) (hs : s.length ≤ 1000000) (HL : ∀ ls, readO ((s.take (s.length - 4)).drop 12) = some ls → ∀ l ∈ ls, l.length ≤ 1000) :
    Calls Tryz.prog 20 #[.string (bs s)] w (QGetSays s w) := by
  obtain ⟨i0, q0, q1, q2, q3⟩ := infoItem
  have HLL := Lib.hid HL
  have HS := Lib.hid hs
  have oA0 := Own.new w #[.int .u32 0, .int .u32 0, .slice none 0 0, .slice none 0 0, .slice none 0 0] 25
  have OA0 := Lib.hid oA0
  have K0 : Hid (Kept [] w (w.alloc (.cells #[.int .u32 0, .int .u32 0, .slice none 0 0, .slice none 0 0, .slice none 0 0] 25))) := Lib.hid ((Kept.refl _ _).alloc _)
  have hz : ((bs s).size : Int) = s.length := by rw [bs_size]
  have hz2 : (bs s).size = s.length := bs_size s
  have j0 : (s.length : Int) ≤ 1000000 := by omega
  clear oA0 HL hs
  by_cases g0 : 16 ≤ s.length
  · have d0 : decide ((s.length : Int) < 16) = false := by simp; omega
    have hrr := Own.new (w.alloc (.cells #[.int .u32 0, .int .u32 0, .slice none 0 0, .slice none 0 0, .slice none 0 0] 25)) #[.string (bs s), .int .i64 0, .int .i64 0] 93
    rw [World.size_alloc] at hrr
    have RR1 : Hid (RrAt ((w.alloc (.cells #[.int .u32 0, .int .u32 0, .slice none 0 0, .slice none 0 0, .slice none 0 0] 25)).alloc (.cells #[.string (bs s), .int .i64 0, .int .i64 0] 93)) (w.heap.size + 1) s 0) := Lib.hid ⟨s, 0, hrr, by omega, HS.out, by simp, fun h => absurd rfl h⟩
    have OA1 := Lib.hid (OA0.out.alloc (.cells #[.string (bs s), .int .i64 0, .int .i64 0] 93))
    have K1 := Lib.hid (K0.out.alloc (.cells #[.string (bs s), .int .i64 0, .int .i64 0] 93))
    obtain ⟨m, hm⟩ : ∃ m, m + 4 = s.length := ⟨s.length - 4, by omega⟩
    have hm4 : s.length - 4 = m := by omega
    have HEM : Hid (IntKind.i64.wrap ((s.length : Int) - 4) = (m : Int)) := Lib.hid (by rw [IntWalk.i64_in _ (by omega)]; omega)
    have E12 : (bs s).extract 12 m = bs ((s.take (s.length - 4)).drop 12) := by rw [bs_extract, hm4, List.drop_take]
    have HJR : Hid (∀ W, Calls Tryz.prog 60 #[.string ((bs s).extract 12 m)] W (QReadSays ((s.take (s.length - 4)).drop 12) W)) := Lib.hid (fun W => by
      rw [E12]
      exact qread _ W (by rw [List.length_drop, List.length_take]; omega))
    obtain ⟨u, hu⟩ : ∃ u, s.drop 4 = u := ⟨_, rfl⟩
    have HTK : Hid (∀ W b, RrAt W b s 0 → Calls Tryz.prog 58 #[.pointer (some ⟨b, 0, none⟩), .int .i64 4] W fun r w' => r = .returned (.string (bs (s.take 4))) ∧ RrAt w' b u 0 ∧ Kept [b] W w') := Lib.hid (fun W b hr => by
      have := rrTake b s 0 4 W hr
      rw [take4 g0, hu] at this
      exact this)
    obtain ⟨nb, hnb⟩ : ∃ nb : Int, (nbT u : Int) = nb := ⟨_, rfl⟩
    obtain ⟨nm, hnm⟩ : ∃ nm : Int, (nmT u : Int) = nm := ⟨_, rfl⟩
    have HU1 : Hid (∀ W b, RrAt W b u 0 → Calls Tryz.prog 59 #[.pointer (some ⟨b, 0, none⟩), .int .i64 4] W fun r w' => r = .returned (.int .u64 nb) ∧ RrAt w' b (numR 4 u 0).2.1 (numR 4 u 0).2.2 ∧ Kept [b] W w') := Lib.hid (fun W b hr => by rw [← hnb]; exact qnum4 b u 0 W hr)
    have HU2 : Hid (∀ W b, RrAt W b (numR 4 u 0).2.1 (numR 4 u 0).2.2 → Calls Tryz.prog 59 #[.pointer (some ⟨b, 0, none⟩), .int .i64 4] W fun r w' => r = .returned (.int .u64 nm) ∧ Kept [b] W w') := Lib.hid (fun W b hr => by
      rw [← hnm]
      exact (qnum4 b _ _ W hr).mono (fun e w' hh => ⟨hh.1, hh.2.2⟩))
    have HNB : Hid ((Lit.int .u32 nb).wf = true) := Lib.hid (by rw [← hnb]; exact numR_wf u 0)
    have HNM : Hid ((Lit.int .u32 nm).wf = true) := Lib.hid (by rw [← hnm]; exact numR_wf _ _)
    have HEW1 : Hid (IntKind.u32.wrap nb = nb) := Lib.hid (by obtain ⟨b1, b2⟩ := bd32 HNB.out; exact wrap32_of b1 b2)
    have HEW2 : Hid (IntKind.u32.wrap nm = nm) := Lib.hid (by obtain ⟨b1, b2⟩ := bd32 HNM.out; exact wrap32_of b1 b2)
    have HCT : Hid (∀ ls, catT u ls = ⟨nb, nm, kindK 1 ls.flatten, kindK 2 ls.flatten, kindK 3 ls.flatten⟩) := Lib.hid (fun ls => by unfold catT; rw [hnb, hnm])
    have HBACK := Lib.hid (fun ls h hh => noCat_qback (s := s) (ls := ls) h hh)
    rw [hu] at HBACK
    have HMANY := Lib.hid (fun ls h hh => noCat_qmany (s := s) (ls := ls) h hh)
    have HNONE := Lib.hid (fun h => noCat_qread (s := s) h)
    generalize (s.take (s.length - 4)).drop 12 = z at *
    have i1 : (12 : Int) ≤ m := by omega
    have i2 : (m : Int) ≤ s.length := by omega
    have i3 : 12 ≤ m := by omega
    have i4 : m ≤ s.length := by omega
    clear hrr hm hm4 E12 hnb hnm hu g0
    unfold QReadSays at HJR
    go_enter Tryz.func20, Tryz.ntmps20
    go_wp2_with fail
    refine (HTK.out _ _ RR1.out).mono ?_; rintro e w2 ⟨rfl, rr2, k2⟩
    have RR2 := Lib.hid rr2
    have K2 := Lib.hid (K1.out.call k2 (fun x hx => Or.inr (by have e : x = w.heap.size + 1 := (by simpa using hx); omega)))
    have OA2 := Lib.hid (k2.own OA1.out (by simp))
    clear rr2 k2
    go_wp2_with fail
    refine (HU1.out _ _ RR2.out).mono ?_; rintro e w3 ⟨rfl, rr3, k3⟩
    have RR3 := Lib.hid rr3
    have K3 := Lib.hid (K2.out.call k3 (fun x hx => Or.inr (by have e : x = w.heap.size + 1 := (by simpa using hx); omega)))
    have OA3 := Lib.hid (k3.own OA2.out (by simp))
    clear rr3 k3
    have ew1 := HEW1.out
    go_wp2_with fail
    clear ew1
    refine (HU2.out _ _ RR3.out).mono ?_; rintro e w5 ⟨rfl, k5⟩
    have K5 := Lib.hid (K3.out.call k5 (fun x hx => Or.inr (by have e : x = w.heap.size + 1 := (by simpa using hx); omega)))
    have OA5 := Lib.hid (k5.own OA3.out (by simp))
    clear k5
    have OB6 := Lib.hid (Own.new w5 #[.int .u32 nb, .int .u32 nm, .slice none 0 0, .slice none 0 0, .slice none 0 0] 25)
    have OA6 := Lib.hid (OA5.out.alloc (.cells #[.int .u32 nb, .int .u32 nm, .slice none 0 0, .slice none 0 0, .slice none 0 0] 25))
    have K6 := Lib.hid (K5.out.alloc (.cells #[.int .u32 nb, .int .u32 nm, .slice none 0 0, .slice none 0 0, .slice none 0 0] 25))
    have HAB : Hid (w.heap.size < w5.heap.size) := Lib.hid OA5.out.lt
    have ew2 := HEW2.out
    have EM := HEM.out
    go_wp2_with fail
    clear ew2 EM
    refine (HJR.out _).mono ?_; rintro e w7 ⟨hjr, k7⟩
    have K7 := Lib.hid (K6.out.trans k7)
    have OA7 := Lib.hid (k7.own OA6.out (by simp))
    have OB7 := Lib.hid (k7.own OB6.out (by simp))
    have HSZ7 : Hid ((w5.alloc (.cells #[.int .u32 nb, .int .u32 nm, .slice none 0 0, .slice none 0 0, .slice none 0 0] 25)).heap.size ≤ w7.heap.size) := Lib.hid k7.size
    clear k7
    generalize w5.heap.size = bx at *
    rcases hjr with ⟨ls, v, hro, htx, rfl⟩ | ⟨hro, rfl⟩
    · have HTX := Lib.hid htx
      obtain ⟨p8, c8, rfl⟩ := htx.shape
      have HRO := Lib.hid hro
      have HLE := Lib.hid (HLL.out ls hro)
      have HMAY := Lib.hid (fun l hl => (greadO_may hro l hl).1)
      clear htx
      by_cases g3 : ls.length ≤ 1
      · have d3 : decide ((ls.length : Int) > 1) = false := by simp; omega
        have d3' : decide ((1 : Int) < ls.length) = false := d3
        have d3n : decide (1 < ls.length) = false := by simp; omega
        have HBX : Hid (bx < w7.heap.size) := Lib.hid OB7.out.lt
        generalize hw6 : w5.alloc (.cells #[.int .u32 nb, .int .u32 nm, .slice none 0 0, .slice none 0 0, .slice none 0 0] 25) = w6 at *
        have HTXK : Hid (∀ k (hk : k < ls.length), ∃ b off kv, p8 = some ⟨b, off, none⟩ ∧ ∀ W, Kept [bx] w7 W → W.cell? ⟨b, off + k, none⟩ = some kv ∧ RecsNew w6 W kv ls[k]) := Lib.hid (fun k hk => by
          obtain ⟨b, off, kv, c, e, hh⟩ := HTX.out.at_ k hk
          injection e with e
          exact ⟨b, off, kv, e, fun W q => hh W _ q (OffTxs.one OB7.out (by decide) (by decide) (by decide))⟩)
        have HOA : Hid (∀ W, Kept [bx] w7 W → Own W w.heap.size #[.int .u32 0, .int .u32 0, .slice none 0 0, .slice none 0 0, .slice none 0 0] 25) := Lib.hid (fun W q => q.own OA7.out (by have := HAB.out; simp; omega))
        have HKW : Hid (∀ W, Kept [bx] w7 W → Kept [] w W) := Lib.hid (fun W q => K7.out.call q (fun x hx => Or.inr (by have e : x = bx := (by simpa using hx); rw [e]; have := HAB.out; omega)))
        have HBK := Lib.hid (HBACK.out ls hro)
        have HCL := Lib.hid (HCT.out ls)
        have G0 := Lib.hid (QGrows.start (base := w6.heap.size) OB7.out)
        clear hro hw6
        go_wp2_with fail
        clear d3 d3' d3n
        by_cases hnil : ls = []
        · subst hnil
          refine wp_loop_rounds 1 ?_
          rw [rounds_succ]
          go_upto_region 20 with fail
          have hG : QGrows w6.heap.size w7 w7 bx nb nm (kindK 1 ([] : List (List JRec)).flatten) (kindK 2 ([] : List (List JRec)).flatten) (kindK 3 ([] : List (List JRec)).flatten) := G0.out
          have HFL : Hid (([] : List (List JRec)).flatten.length ≤ 1000) := Lib.hid (by simp)
          obtain ⟨wr, rfl⟩ : ∃ wr, wr = w7 := ⟨_, rfl⟩
          obtain ⟨va, vb, vc, ⟨⟨p1, n1, c1, rfl⟩, ⟨p2, n2, c2, rfl⟩, ⟨p3, n3, c3, rfl⟩⟩, ob, hkp, hcat⟩ := hG.cat HNB.out HNM.out
          rw [← HCL.out] at hcat
          have hsm := catT_small (u := u) HMAY.out HFL.out
          have HM : Hid (∀ W, Kept [] wr W → Calls Tryz.prog 12 #[.agg #[.int .u32 nb, .int .u32 nm, .slice p1 n1 c1, .slice p2 n2 c2, .slice p3 n3 c3]] W (EqSays (mayC (catT u _)) W)) := Lib.hid (fun W q => qmayC _ _ W (hcat W q).1 hsm.1)
          have HP : Hid (mayC (catT u _) → ∀ W, Kept [] wr W → Calls Tryz.prog 19 #[.agg #[.int .u32 nb, .int .u32 nm, .slice p1 n1 c1, .slice p2 n2 c2, .slice p3 n3 c3]] W fun e w' => e = .returned (.string (bs (putC (catT u _)))) ∧ Kept [] W w') := Lib.hid (fun hm W q => qput _ _ W (hcat W q).1 hm hsm.2)
          have HCAT := Lib.hid hcat
          have OB := Lib.hid ob
          have OA := Lib.hid (HOA.out wr hkp)
          have KW := Lib.hid (HKW.out wr hkp)
          obtain ⟨z0, z1, z2, z3, z4⟩ := ob.k5
          clear hG hkp hcat ob hsm
          unfold EqSays at HM
          generalize catT u _ = C at *
          go_wp2_with fail
          refine (HM.out _ (Kept.refl _ _)).mono ?_; rintro e w9 ⟨bm, rfl, hbm, k9⟩
          have K9 := Lib.hid (KW.out.trans k9)
          have KX := Lib.hid k9
          have OA9 := Lib.hid (k9.own OA.out (by simp))
          have OB9 := Lib.hid (k9.own OB.out (by simp))
          have HBM := Lib.hid hbm
          clear k9 hbm z0 z1 z2 z3 z4
          cases bm with
          | false =>
            have HNO := Lib.hid (HBK.out (fun hh => by have := HBM.out.2 hh.1; cases this))
            obtain ⟨y0, y1, y2, y3, y4⟩ := OA9.out.k5
            obtain ⟨g0, g1, g2, g3, g4⟩ := OA9.out.y5
            go_wp2_with fail
            refine bodyPost_ret (v := .tuple #[.agg #[.int .u32 0, .int .u32 0, .slice none 0 0, .slice none 0 0, .slice none 0 0], .bool false]) (ret_row_tmp Tryz.results20 rfl rfl (t := 25) ?_ Tryz.underlying25 rfl (by kernel_rfl)) rfl ?_
            · exact OA9.out.put5 _ _ _ _ _
            · exact qget_no HNO.out (Kept.set5s K9.out (Or.inr (Nat.le_refl _)) _ _ _ _ _)
          | true =>
            have HMC := Lib.hid (HBM.out.1 rfl)
            obtain ⟨z0, z1, z2, z3, z4⟩ := OB9.out.k5
            go_wp2_with fail
            refine (HP.out HMC.out _ KX.out).mono ?_; rintro e wa ⟨rfl, ka⟩
            have KA := Lib.hid (K9.out.trans ka)
            have KXA := Lib.hid (KX.out.trans ka)
            have OAA := Lib.hid (ka.own OA9.out (by simp))
            have OBA := Lib.hid (ka.own OB9.out (by simp))
            obtain ⟨z0, z1, z2, z3, z4⟩ := OBA.out.k5
            clear ka
            by_cases hp : putC C = s
            · have q1 : ((bs (putC C)).toList == (bs s).toList) = true := by rw [hp]; simp
              have HPE := Lib.hid hp
              have HFIN := Lib.hid (HCAT.out wa KXA.out).2
              obtain ⟨y0, y1, y2, y3, y4⟩ := OAA.out.k5
              obtain ⟨g0, g1, g2, g3, g4⟩ := OAA.out.y5
              clear hp
              go_wp2_with fail
              refine bodyPost_ret (v := .tuple #[.agg #[.int .u32 nb, .int .u32 nm, .slice p1 n1 c1, .slice p2 n2 c2, .slice p3 n3 c3], .bool true]) (ret_row_tmp Tryz.results20 rfl rfl (t := 25) ?_ Tryz.underlying25 rfl (by kernel_rfl)) rfl ?_
              · exact OAA.out.put5 _ _ _ _ _
              · exact qget_yes HMC.out HPE.out (HFIN.out _ _ OAA.out _ _ _ _ _) (Kept.set5s KA.out (Or.inr (Nat.le_refl _)) _ _ _ _ _)
            · have q1 : ((bs (putC C)).toList == (bs s).toList) = false := by rw [bs_toList, bs_toList]; simpa using hp
              have HNO := Lib.hid (HBK.out (fun hh => hp hh.2))
              clear hp
              obtain ⟨y0, y1, y2, y3, y4⟩ := OAA.out.k5
              obtain ⟨g0, g1, g2, g3, g4⟩ := OAA.out.y5
              go_wp2_with fail
              refine bodyPost_ret (v := .tuple #[.agg #[.int .u32 0, .int .u32 0, .slice none 0 0, .slice none 0 0, .slice none 0 0], .bool false]) (ret_row_tmp Tryz.results20 rfl rfl (t := 25) ?_ Tryz.underlying25 rfl (by kernel_rfl)) rfl ?_
              · exact OAA.out.put5 _ _ _ _ _
              · exact qget_no HNO.out (Kept.set5s KA.out (Or.inr (Nat.le_refl _)) _ _ _ _ _)
        · obtain ⟨l0, rfl⟩ : ∃ l0, ls = [l0] := by
            cases ls with
            | nil => exact absurd rfl hnil
            | cons a t =>
              have : t = [] := List.eq_nil_of_length_eq_zero (by simpa using g3)
              subst this
              exact ⟨a, rfl⟩
          have hl1 := HLE.out l0 (by simp)
          have HL1 := Lib.hid hl1
          have HFL : Hid (([l0] : List (List JRec)).flatten.length ≤ 1000) := Lib.hid (by simpa using hl1)
          obtain ⟨b, off, kv, rfl, hkv⟩ := HTXK.out 0 (by simp)
          simp only [Nat.add_zero, List.getElem_cons_zero] at hkv
          obtain ⟨p9, c9, rfl⟩ := (hkv w7 (Kept.refl _ _)).2.shape
          have HKV := Lib.hid hkv
          have HML := Lib.hid (HMAY.out l0 (by simp))
          have j5 : (l0.length : Int) ≤ 1000 := by omega
          clear hl1 hkv g3 hnil
          simp only [List.length_singleton, List.length_cons, List.length_nil, Nat.zero_add]
          go_loopw [8] (fun i wx => ∃ j : Nat, j ≤ l0.length ∧ i = .int .i64 j ∧ QGrows w6.heap.size w7 wx bx nb nm (kindK 1 (l0.take j)) (kindK 2 (l0.take j)) (kindK 3 (l0.take j))) (fun i _ => l0.length - (intOf i).toNat)
          case atStart => exact ⟨0, Nat.zero_le _, rfl, G0.out⟩
          case round =>
            obtain ⟨j, hj, rfl, hG⟩ := hrel
            rename World => wx
            by_cases hjt : j < l0.length
            · have i5 : (j : Int) < l0.length := by omega
              obtain ⟨va0, vb0, vc0, _, _, hkp, _⟩ := hG.cat HNB.out HNM.out
              obtain ⟨hc0, hrec⟩ := HKV.out wx hkp
              obtain ⟨b', off', rv, cc, e9, y0, y1, y2, y3, y4, hrn, hfit⟩ := hrec.at5 j hjt
              injection e9 with e9 _ e9c
              subst e9 e9c
              have hmr := HML.out l0[j] (List.getElem_mem hjt)
              have hwfr := may_wf hmr hfit
              have HKK : Hid (∀ k, kindK k (l0.take (j + 1)) = sortK l0[j].kind k l0[j].item (kindK k (l0.take j))) := Lib.hid (fun k => by rw [List.take_succ_eq_append_getElem hjt, kindK_snoc])
              have HLK : Hid (∀ k, (kindK k (l0.take j)).length ≤ 1000) := Lib.hid (fun k => by
                have h1 := kindK_len k (l0.take j)
                rw [List.length_take] at h1
                have := HL1.out; omega)
              have HOI : Hid (∀ W, Kept [] wx W → OwnItem w6.heap.size W (l0[j].item, rv)) := Lib.hid (fun W q => ⟨(hrn.kept0 q), JRec.item_fits hfit, hwfr⟩)
              have HG := Lib.hid hG
              have HJT := Lib.hid hjt
              obtain ⟨pr, nr, cr, rfl⟩ : SlV rv := by
                obtain ⟨p, c, rfl⟩ := own_shape hrn
                exact ⟨_, _, _, rfl⟩
              clear hG hkp hrec hrn hfit hmr hwfr hj
              generalize l0[j]'hjt = r at *
              clear hjt
              obtain ⟨kd, id, nm', sz, rr⟩ := r
              simp only [JRec.item] at y0 y1 y2 y3 y4 HKK HOI
              go_upto_region 14 with fail
              obtain ⟨W2, hW2⟩ : ∃ W2, W2 = (wx.alloc (.cells #[.int .i64 kd, .int .u32 id, .string (bs nm'), .int .i64 sz, .slice pr nr cr] 55)).alloc (.cells #[.int .u32 id, .string (bs nm'), .int .i64 sz, .slice pr nr cr] 58) := ⟨_, rfl⟩
              have k2 : Kept [] wx W2 := by rw [hW2]; exact ((Kept.refl _ _).alloc _).alloc _
              have o9 : Own W2 wx.heap.size #[.int .i64 kd, .int .u32 id, .string (bs nm'), .int .i64 sz, .slice pr nr cr] 55 := by rw [hW2]; exact (Own.new _ _ _).alloc _
              have o10 : Own W2 (wx.heap.size + 1) #[.int .u32 id, .string (bs nm'), .int .i64 sz, .slice pr nr cr] 58 := by
                have := Own.new (wx.alloc (.cells #[.int .i64 kd, .int .u32 id, .string (bs nm'), .int .i64 sz, .slice pr nr cr] 55)) #[.int .u32 id, .string (bs nm'), .int .i64 sz, .slice pr nr cr] 58
                rw [World.size_alloc] at this
                rw [hW2]; exact this
              rw [← hW2]
              have hoi := HOI.out W2 k2
              obtain ⟨va, vb, vc, xs, ys, zs, ob, r3, e1, e2, e3, kk, hlo1, hlo2, hlo3⟩ := HG.out.kept0 k2
              have hxs : xs.length ≤ 1000 := by have := HLK.out 1; rw [← e1, List.length_map] at this; exact this
              have hys : ys.length ≤ 1000 := by have := HLK.out 2; rw [← e2, List.length_map] at this; exact this
              have hzs : zs.length ≤ 1000 := by have := HLK.out 3; rw [← e3, List.length_map] at this; exact this
              have HXS := Lib.hid hxs
              have HYS := Lib.hid hys
              have HZS := Lib.hid hzs
              have O9 := Lib.hid o9
              have O10 := Lib.hid o10
              have OB := Lib.hid ob
              have R3 := Lib.hid r3
              have KK := Lib.hid kk
              have HOI2 := Lib.hid hoi
              have HLO := Lib.hid (And.intro hlo1 (And.intro hlo2 hlo3))
              have HNE : Hid (wx.heap.size ≠ bx) := Lib.hid (fun e => by
                have h1 := HG.out
                obtain ⟨_, _, _, _, _, _, o, _⟩ := h1
                have := o.lt; omega)
              obtain ⟨p1, c1, rfl⟩ := own_shape r3.ra
              obtain ⟨p2, c2, rfl⟩ := own_shape r3.rb
              obtain ⟨p3, c3, rfl⟩ := own_shape r3.rc
              obtain ⟨z0, z1, z2, z3, z4⟩ := ob.k5
              obtain ⟨t0, t1, t2, t3⟩ := o10.c4
              have k0 : W2.cell? ⟨wx.heap.size, 0, none⟩ = some (.int .i64 kd) := o9.cell 0 (by simp)
              have HKP : Hid (∀ k, kindK k (l0.take (j + 1)) = sortK kd k ⟨id, nm', sz, rr⟩ (kindK k (l0.take j))) := HKK
              have HE := Lib.hid (And.intro e1 (And.intro e2 e3))
              clear hxs hys hzs o9 o10 ob r3 kk hoi hlo1 hlo2 hlo3 hW2 k2 e1 e2 e3 y0 y1 y2 y3 y4 HOI HG HKK HLK
              by_cases h1 : kd = 1
              · subst h1
                go_wp2_with (at_builtin; go_must (refine wpList_append_own_at _ rfl (.tmp 76) (.tmp 78) 23 rfl w6.heap.size 58 i0 _ 4 56 Tryz.underlying23 q0 q1 q2 q3 rfl (by decide) _ _ _ rfl (World.ownsRow.alloc R3.out.ra _) ⟨W2.heap.size, 0, none⟩ 1 1 (vcells ⟨id, nm', sz, rr⟩ (.slice pr nr cr)) rfl rfl ?_ ?_ (by have := HXS.out; unfold maxLen; omega) (by have := HXS.out; omega) ?_ ?_))
                · first | exact World.news_of_block (heap_alloc_new W2 _) | (intro j u hj; exact hj)
                · intro u hu; simp [vcells] at hu; rcases hu with rfl | rfl | rfl | rfl <;> rfl
                · have := KK.out.size; have := HSZ7.out; simp; omega
                intro v9 w9 o9' gr9 _ hb9
                obtain ⟨OB6', R6, K6', hlo6, hown6⟩ := QGrows.put (nb := nb) (nm := nm) (x := (⟨id, nm', sz, rr⟩, .slice pr nr cr)) OB.out R3.out HOI2.out KK.out HLO.out.1 gr9 o9' (by rw [World.size_alloc]; exact hb9)
                have R66 := Lib.hid R6
                have K66 := Lib.hid K6'
                have HLO6 := Lib.hid hlo6
                have OB66 := Lib.hid OB6'
                have O99 := Lib.hid (hown6 _ _ _ O9.out (by decide))
                obtain ⟨p6, c6, rfl⟩ := own_shape o9'
                have b0 := OB66.out.cell 2 (by simp)
                simp only [List.getElem_toArray, List.getElem_cons_zero, List.getElem_cons_succ] at b0
                have b1 := OB66.out.free 2
                have k9 : (w9.setCell ⟨bx, 2, none⟩ (.slice p6 (xs.length + 1) c6)).cell? ⟨wx.heap.size, 0, none⟩ = some (.int .i64 1) := (O99.out.other (p := ⟨bx, 2, none⟩) HNE.out _).cell 0 (by simp)
                clear o9' gr9 hb9 OB6' R6 K6' hlo6 hown6 z0 z1 z2 z3 z4 t0 t1 t2 t3 k0
                go_wp2_with fail
                go_roundw
                case rel => (repeat apply Exists.intro); refine ⟨?_, rfl⟩; exact ⟨j + 1, HJT.out, by first | rfl | go_num, _, _, _, (xs ++ [(⟨id, nm', sz, rr⟩, .slice pr nr cr)]), ys, zs, OB66.out.set 2 _, R66.out.set OB66.out 2 _, (by rw [HKP.out 1, List.map_append, HE.out.1]; rfl), (by rw [HKP.out 2, HE.out.2.1]; rfl), (by rw [HKP.out 3, HE.out.2.2]; rfl), K66.out.setCell (p := ⟨bx, 2, none⟩) (Or.inl (by simp)) _, HLO6.out, HLO.out.2.1, HLO.out.2.2⟩
                case measure => (have hh := HJT.out; simp [intOf]; omega)
              · by_cases h2 : kd = 2
                · subst h2
                  go_wp2_with (at_builtin; go_must (refine wpList_append_own_at _ rfl (.tmp 85) (.tmp 87) 23 rfl w6.heap.size 58 i0 _ 4 56 Tryz.underlying23 q0 q1 q2 q3 rfl (by decide) _ _ _ rfl (World.ownsRow.alloc R3.out.rot.ra _) ⟨W2.heap.size, 0, none⟩ 1 1 (vcells ⟨id, nm', sz, rr⟩ (.slice pr nr cr)) rfl rfl ?_ ?_ (by have := HYS.out; unfold maxLen; omega) (by have := HYS.out; omega) ?_ ?_))
                  · first | exact World.news_of_block (heap_alloc_new W2 _) | (intro j u hj; exact hj)
                  · intro u hu; simp [vcells] at hu; rcases hu with rfl | rfl | rfl | rfl <;> rfl
                  · have := KK.out.size; have := HSZ7.out; simp; omega
                  intro v9 w9 o9' gr9 _ hb9
                  obtain ⟨OB6', R6, K6', hlo6, hown6⟩ := QGrows.put (nb := nb) (nm := nm) (x := (⟨id, nm', sz, rr⟩, .slice pr nr cr)) OB.out R3.out.rot HOI2.out KK.out HLO.out.2.1 gr9 o9' (by rw [World.size_alloc]; exact hb9)
                  have R66 := Lib.hid R6.rot.rot
                  have K66 := Lib.hid K6'
                  have HLO6 := Lib.hid hlo6
                  have OB66 := Lib.hid OB6'
                  have O99 := Lib.hid (hown6 _ _ _ O9.out (by decide))
                  obtain ⟨p6, c6, rfl⟩ := own_shape o9'
                  have b0 := OB66.out.cell 3 (by simp)
                  simp only [List.getElem_toArray, List.getElem_cons_zero, List.getElem_cons_succ] at b0
                  have b1 := OB66.out.free 3
                  have k9 : (w9.setCell ⟨bx, 3, none⟩ (.slice p6 (ys.length + 1) c6)).cell? ⟨wx.heap.size, 0, none⟩ = some (.int .i64 2) := (O99.out.other (p := ⟨bx, 3, none⟩) HNE.out _).cell 0 (by simp)
                  clear o9' gr9 hb9 OB6' R6 K6' hlo6 hown6 z0 z1 z2 z3 z4 t0 t1 t2 t3 k0
                  go_wp2_with fail
                  go_roundw
                  case rel => (repeat apply Exists.intro); refine ⟨?_, rfl⟩; exact ⟨j + 1, HJT.out, by first | rfl | go_num, _, _, _, xs, (ys ++ [(⟨id, nm', sz, rr⟩, .slice pr nr cr)]), zs, OB66.out.set 3 _, R66.out.set OB66.out 3 _, (by rw [HKP.out 1, HE.out.1]; rfl), (by rw [HKP.out 2, List.map_append, HE.out.2.1]; rfl), (by rw [HKP.out 3, HE.out.2.2]; rfl), K66.out.setCell (p := ⟨bx, 3, none⟩) (Or.inl (by simp)) _, HLO.out.1, HLO6.out, HLO.out.2.2⟩
                  case measure => (have hh := HJT.out; simp [intOf]; omega)
                · by_cases h3 : kd = 3
                  · subst h3
                    go_wp2_with (at_builtin; go_must (refine wpList_append_own_at _ rfl (.tmp 94) (.tmp 96) 23 rfl w6.heap.size 58 i0 _ 4 56 Tryz.underlying23 q0 q1 q2 q3 rfl (by decide) _ _ _ rfl (World.ownsRow.alloc R3.out.rot.rot.ra _) ⟨W2.heap.size, 0, none⟩ 1 1 (vcells ⟨id, nm', sz, rr⟩ (.slice pr nr cr)) rfl rfl ?_ ?_ (by have := HZS.out; unfold maxLen; omega) (by have := HZS.out; omega) ?_ ?_))
                    · first | exact World.news_of_block (heap_alloc_new W2 _) | (intro j u hj; exact hj)
                    · intro u hu; simp [vcells] at hu; rcases hu with rfl | rfl | rfl | rfl <;> rfl
                    · have := KK.out.size; have := HSZ7.out; simp; omega
                    intro v9 w9 o9' gr9 _ hb9
                    obtain ⟨OB6', R6, K6', hlo6, hown6⟩ := QGrows.put (nb := nb) (nm := nm) (x := (⟨id, nm', sz, rr⟩, .slice pr nr cr)) OB.out R3.out.rot.rot HOI2.out KK.out HLO.out.2.2 gr9 o9' (by rw [World.size_alloc]; exact hb9)
                    have R66 := Lib.hid R6.rot
                    have K66 := Lib.hid K6'
                    have HLO6 := Lib.hid hlo6
                    have OB66 := Lib.hid OB6'
                    have O99 := Lib.hid (hown6 _ _ _ O9.out (by decide))
                    obtain ⟨p6, c6, rfl⟩ := own_shape o9'
                    have b0 := OB66.out.cell 4 (by simp)
                    simp only [List.getElem_toArray, List.getElem_cons_zero, List.getElem_cons_succ] at b0
                    have b1 := OB66.out.free 4
                    have k9 : (w9.setCell ⟨bx, 4, none⟩ (.slice p6 (zs.length + 1) c6)).cell? ⟨wx.heap.size, 0, none⟩ = some (.int .i64 3) := (O99.out.other (p := ⟨bx, 4, none⟩) HNE.out _).cell 0 (by simp)
                    clear o9' gr9 hb9 OB6' R6 K6' hlo6 hown6 z0 z1 z2 z3 z4 t0 t1 t2 t3 k0
                    go_wp2_with fail
                    go_roundw
                    case rel => (repeat apply Exists.intro); refine ⟨?_, rfl⟩; exact ⟨j + 1, HJT.out, by first | rfl | go_num, _, _, _, xs, ys, (zs ++ [(⟨id, nm', sz, rr⟩, .slice pr nr cr)]), OB66.out.set 4 _, R66.out.set OB66.out 4 _, (by rw [HKP.out 1, HE.out.1]; rfl), (by rw [HKP.out 2, HE.out.2.1]; rfl), (by rw [HKP.out 3, List.map_append, HE.out.2.2]; rfl), K66.out.setCell (p := ⟨bx, 4, none⟩) (Or.inl (by simp)) _, HLO.out.1, HLO.out.2.1, HLO6.out⟩
                    case measure => (have hh := HJT.out; simp [intOf]; omega)
                  · have f1 : (kd == 1) = false := by simpa using h1
                    have f2 : (kd == 2) = false := by simpa using h2
                    have f3 : (kd == 3) = false := by simpa using h3
                    have HF : Hid (∀ k, k = 1 ∨ k = 2 ∨ k = 3 → kindK k (l0.take (j + 1)) = kindK k (l0.take j)) := Lib.hid (fun k hk => by rw [HKP.out k]; unfold sortK; rw [if_neg (by omega)])
                    clear h1 h2 h3
                    go_wp2_with fail
                    go_roundw
                    case rel => exact ⟨j + 1, HJT.out, by first | rfl | go_num, _, _, _, xs, ys, zs, OB.out, R3.out, by rw [HF.out 1 (by omega)]; exact HE.out.1, by rw [HF.out 2 (by omega)]; exact HE.out.2.1, by rw [HF.out 3 (by omega)]; exact HE.out.2.2, KK.out, HLO.out.1, HLO.out.2.1, HLO.out.2.2⟩
                    case measure => (have hh := HJT.out; simp [intOf]; omega)
            · obtain rfl : j = l0.length := by omega
              rw [List.take_length] at hG
              have hG : QGrows w6.heap.size w7 wx bx nb nm (kindK 1 [l0].flatten) (kindK 2 [l0].flatten) (kindK 3 [l0].flatten) := by simpa using hG
              have HG := Lib.hid hG
              have i5 : ¬ (l0.length : Int) < l0.length := by omega
              have hc0 : wx.cell? ⟨b, off, none⟩ = some (.slice p9 l0.length c9) := by
                obtain ⟨_, _, _, _, _, hkp, _⟩ := hG.cat HNB.out HNM.out
                exact (HKV.out wx hkp).1
              clear hG hjt hj
              go_upto_region 20 with fail
              clear hc0
              have hG := HG.out
              obtain ⟨wr, rfl⟩ : ∃ wr, wr = wx := ⟨_, rfl⟩
              obtain ⟨va, vb, vc, ⟨⟨p1, n1, c1, rfl⟩, ⟨p2, n2, c2, rfl⟩, ⟨p3, n3, c3, rfl⟩⟩, ob, hkp, hcat⟩ := hG.cat HNB.out HNM.out
              rw [← HCL.out] at hcat
              have hsm := catT_small (u := u) HMAY.out HFL.out
              have HM : Hid (∀ W, Kept [] wr W → Calls Tryz.prog 12 #[.agg #[.int .u32 nb, .int .u32 nm, .slice p1 n1 c1, .slice p2 n2 c2, .slice p3 n3 c3]] W (EqSays (mayC (catT u _)) W)) := Lib.hid (fun W q => qmayC _ _ W (hcat W q).1 hsm.1)
              have HP : Hid (mayC (catT u _) → ∀ W, Kept [] wr W → Calls Tryz.prog 19 #[.agg #[.int .u32 nb, .int .u32 nm, .slice p1 n1 c1, .slice p2 n2 c2, .slice p3 n3 c3]] W fun e w' => e = .returned (.string (bs (putC (catT u _)))) ∧ Kept [] W w') := Lib.hid (fun hm W q => qput _ _ W (hcat W q).1 hm hsm.2)
              have HCAT := Lib.hid hcat
              have OB := Lib.hid ob
              have OA := Lib.hid (HOA.out wr hkp)
              have KW := Lib.hid (HKW.out wr hkp)
              obtain ⟨z0, z1, z2, z3, z4⟩ := ob.k5
              clear hG hkp hcat ob hsm
              unfold EqSays at HM
              generalize catT u _ = C at *
              go_wp2_with fail
              refine (HM.out _ (Kept.refl _ _)).mono ?_; rintro e w9 ⟨bm, rfl, hbm, k9⟩
              have K9 := Lib.hid (KW.out.trans k9)
              have KX := Lib.hid k9
              have OA9 := Lib.hid (k9.own OA.out (by simp))
              have OB9 := Lib.hid (k9.own OB.out (by simp))
              have HBM := Lib.hid hbm
              clear k9 hbm z0 z1 z2 z3 z4
              cases bm with
              | false =>
                have HNO := Lib.hid (HBK.out (fun hh => by have := HBM.out.2 hh.1; cases this))
                obtain ⟨y0, y1, y2, y3, y4⟩ := OA9.out.k5
                obtain ⟨g0, g1, g2, g3, g4⟩ := OA9.out.y5
                go_wp2_with fail
                refine bodyPost_ret (v := .tuple #[.agg #[.int .u32 0, .int .u32 0, .slice none 0 0, .slice none 0 0, .slice none 0 0], .bool false]) (ret_row_tmp Tryz.results20 rfl rfl (t := 25) ?_ Tryz.underlying25 rfl (by kernel_rfl)) rfl ?_
                · exact OA9.out.put5 _ _ _ _ _
                · exact qget_no HNO.out (Kept.set5s K9.out (Or.inr (Nat.le_refl _)) _ _ _ _ _)
              | true =>
                have HMC := Lib.hid (HBM.out.1 rfl)
                obtain ⟨z0, z1, z2, z3, z4⟩ := OB9.out.k5
                go_wp2_with fail
                refine (HP.out HMC.out _ KX.out).mono ?_; rintro e wa ⟨rfl, ka⟩
                have KA := Lib.hid (K9.out.trans ka)
                have KXA := Lib.hid (KX.out.trans ka)
                have OAA := Lib.hid (ka.own OA9.out (by simp))
                have OBA := Lib.hid (ka.own OB9.out (by simp))
                obtain ⟨z0, z1, z2, z3, z4⟩ := OBA.out.k5
                clear ka
                by_cases hp : putC C = s
                · have q1 : ((bs (putC C)).toList == (bs s).toList) = true := by rw [hp]; simp
                  have HPE := Lib.hid hp
                  have HFIN := Lib.hid (HCAT.out wa KXA.out).2
                  obtain ⟨y0, y1, y2, y3, y4⟩ := OAA.out.k5
                  obtain ⟨g0, g1, g2, g3, g4⟩ := OAA.out.y5
                  clear hp
                  go_wp2_with fail
                  refine bodyPost_ret (v := .tuple #[.agg #[.int .u32 nb, .int .u32 nm, .slice p1 n1 c1, .slice p2 n2 c2, .slice p3 n3 c3], .bool true]) (ret_row_tmp Tryz.results20 rfl rfl (t := 25) ?_ Tryz.underlying25 rfl (by kernel_rfl)) rfl ?_
                  · exact OAA.out.put5 _ _ _ _ _
                  · exact qget_yes HMC.out HPE.out (HFIN.out _ _ OAA.out _ _ _ _ _) (Kept.set5s KA.out (Or.inr (Nat.le_refl _)) _ _ _ _ _)
                · have q1 : ((bs (putC C)).toList == (bs s).toList) = false := by rw [bs_toList, bs_toList]; simpa using hp
                  have HNO := Lib.hid (HBK.out (fun hh => hp hh.2))
                  clear hp
                  obtain ⟨y0, y1, y2, y3, y4⟩ := OAA.out.k5
                  obtain ⟨g0, g1, g2, g3, g4⟩ := OAA.out.y5
                  go_wp2_with fail
                  refine bodyPost_ret (v := .tuple #[.agg #[.int .u32 0, .int .u32 0, .slice none 0 0, .slice none 0 0, .slice none 0 0], .bool false]) (ret_row_tmp Tryz.results20 rfl rfl (t := 25) ?_ Tryz.underlying25 rfl (by kernel_rfl)) rfl ?_
                  · exact OAA.out.put5 _ _ _ _ _
                  · exact qget_no HNO.out (Kept.set5s KA.out (Or.inr (Nat.le_refl _)) _ _ _ _ _)
      · have d3 : decide ((ls.length : Int) > 1) = true := by simp; omega
        have d3' : decide ((1 : Int) < ls.length) = true := d3
        have d3n : decide (1 < ls.length) = true := by simp; omega
        have HNO := Lib.hid (HMANY.out ls HRO.out g3)
        clear g3 hro
        obtain ⟨y0, y1, y2, y3, y4⟩ := OA7.out.k5
        obtain ⟨g0, g1, g2, g3, g4⟩ := OA7.out.y5
        go_wp2_with fail
        refine bodyPost_ret (v := .tuple #[.agg #[.int .u32 0, .int .u32 0, .slice none 0 0, .slice none 0 0, .slice none 0 0], .bool false]) (ret_row_tmp Tryz.results20 rfl rfl (t := 25) ?_ Tryz.underlying25 rfl (by kernel_rfl)) rfl ?_
        · exact OA7.out.put5 _ _ _ _ _
        · exact qget_no HNO.out (Kept.set5s K7.out (Or.inr (Nat.le_refl _)) _ _ _ _ _)
    · have HNO := Lib.hid (HNONE.out hro)
      clear hro
      obtain ⟨y0, y1, y2, y3, y4⟩ := OA7.out.k5
      obtain ⟨g0, g1, g2, g3, g4⟩ := OA7.out.y5
      go_wp2_with fail
      refine bodyPost_ret (v := .tuple #[.agg #[.int .u32 0, .int .u32 0, .slice none 0 0, .slice none 0 0, .slice none 0 0], .bool false]) (ret_row_tmp Tryz.results20 rfl rfl (t := 25) ?_ Tryz.underlying25 rfl (by kernel_rfl)) rfl ?_
      · exact OA7.out.put5 _ _ _ _ _
      · exact qget_no HNO.out (Kept.set5s K7.out (Or.inr (Nat.le_refl _)) _ _ _ _ _)
  · have d0 : decide ((s.length : Int) < 16) = true := by simp; omega
    have HNO := Lib.hid (noCat_short g0)
    clear g0
    go_enter Tryz.func20, Tryz.ntmps20
    obtain ⟨y0, y1, y2, y3, y4⟩ := OA0.out.k5
    obtain ⟨g0, g1, g2, g3, g4⟩ := OA0.out.y5
    go_wp2_with fail
    refine bodyPost_ret (v := .tuple #[.agg #[.int .u32 0, .int .u32 0, .slice none 0 0, .slice none 0 0, .slice none 0 0], .bool false]) (ret_row_tmp Tryz.results20 rfl rfl (t := 25) ?_ Tryz.underlying25 rfl (by kernel_rfl)) rfl ?_
    · exact Own.new _ _ _
    · exact qget_no HNO.out ((Kept.refl _ _).alloc _)
end Go.Proofs.YtakdnchmehmdhaaGreat
