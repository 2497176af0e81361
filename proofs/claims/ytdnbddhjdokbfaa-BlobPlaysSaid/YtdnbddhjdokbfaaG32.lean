/- Layer 12 (blob): the document's list of sectors. -/
import Derived.Test.YtdnbddhjdokbfaaG05
import Derived.Test.YtdnbddhjdokbfaaG24
import Derived.Test.YtdnbddhjdokbfaaG29
import Derived.Test.YtdnbddhjdokbfaaG31
import Derived.Deep.RegionWith
import Derived.BigRegion
namespace Go.Proofs.Ytdnbddhjdokbfaa
open Go.RowKit
set_option linter.unusedVariables false
set_option linter.unusedSimpArgs false

theorem secsL_len_at (l : List (Int × Int)) (k : Nat) (h : k < l.length) (j : Nat) (hj : j ≤ l[k].2.toNat) : (secsL (l.take k)).length + j ≤ (secsL l).length := by
  have e : (secsL l).length = (secsL (l.take (k + 1))).length + (secsL (l.drop (k + 1))).length := by
    rw [← List.length_append, ← secsL_append, List.take_append_drop]
  rw [e, secsL_take l k h, List.length_append, List.length_map, List.length_range]
  omega
set_option maxRecDepth 100000 in
set_option maxHeartbeats 4000000 in
theorem qList (v : Value) (l : List (Int × Int)) (lo hi : Nat) (w : World) (h : RunsIn w v l lo hi) (hl : l.length ≤ 1000000) (hwf : ∀ a ∈ l, WfRun a) :
    Calls Try.prog 9 #[v] w fun e w' => ∃ u, e = .returned u ∧ w'.ownsRow w.heap.size 3 1 u (secsE l).length (intsV (secsE l)) ∧ Kept [] w w' := by
  have HM : ∀ W, Kept [] w W → Calls Try.prog 30 #[v, .int .i64 0, .int .i64 8192] W (MayXSays 0 8192 l W) := fun W k => zmay v l 0 8192 lo hi W (h.kept0 k) hl hwf (by omega) (by omega) (by omega) (by omega)
  have HW := Lib.hid h
  obtain ⟨i0, q0, q1, q2, q3⟩ := infoInt
  obtain ⟨p, c, rfl⟩ := h.shape
  clear h hwf
  go_enter Try.func9, Try.ntmps9
  go_wp2_with fail
  refine (HM _ (Kept.refl _ _)).mono ?_; rintro e w1 ⟨r, rfl, hr, k1⟩
  have HR := Lib.hid hr
  clear hr HM
  cases r with
  | false =>
    have e0 : secsE l = [] := secsE_no (fun h => by have := HR.out.2 h; cases this)
    have E0 := Lib.hid e0
    clear e0
    go_wp2_with fail
    go_ret
    exact ⟨_, rfl, by rw [E0.out]; exact World.ownsRow_nil _ _ _ _, k1⟩
  | true =>
    have hm : MayX 0 8192 l := HR.out.1 rfl
    have e0 : secsE l = secsL l := secsE_may hm
    have E0 := Lib.hid e0
    have HMX := Lib.hid hm
    clear e0 hm HR
    go_wp2_with fail
    go_loopw [4, 3] (fun i u wx => ∃ k : Nat, k ≤ l.length ∧ i = .int .i64 k ∧ wx.ownsRow w.heap.size 3 1 u (secsL (l.take k)).length (intsV (secsL (l.take k))) ∧ Kept [] w wx) (fun i _ _ => l.length - (intOf i).toNat)
    case atStart => exact ⟨0, by omega, rfl, World.ownsRow_nil _ _ _ _, k1⟩
    case round =>
      obtain ⟨k, hk, rfl, hrow, hK⟩ := hrel
      by_cases hlt : k < l.length
      · have htk := secsL_take l k hlt
        have hle := secsL_len_at l k hlt
        have hl8 := secsL_le HMX.out
        have hok := HMX.out.1 _ (List.getElem_mem hlt)
        have hat : ∀ W, Kept [] w W → ∃ b off, p = some ⟨b, off, none⟩ ∧ W.cell? ⟨b, off + k * 2, none⟩ = some (.int .i64 l[k].1) ∧ W.cell? ⟨b, off + k * 2 + 1, none⟩ = some (.int .i64 l[k].2) ∧ b < W.heap.size ∧ l.length ≤ c ∧ c ≤ maxLen := fun W kW => (HW.out.kept0 kW).at_ k hlt
        unfold OkX at hok
        generalize l[k] = r at *
        obtain ⟨ra, rn⟩ := r
        obtain ⟨o1, o2, o3, o4⟩ := hok
        simp only at o1 o2 o3 o4 htk hle hat
        obtain ⟨a, rfl⟩ := Int.eq_ofNat_of_zero_le o1
        obtain ⟨m, rfl⟩ := Int.eq_ofNat_of_zero_le (show 0 ≤ rn by omega)
        simp only [Int.toNat_natCast] at htk hle
        have i1 : (k : Int) < l.length := by omega
        have hwk : wrap64 ((k : Int) + 1) = (k : Int) + 1 := IntWalk.wrap64_in _ (by omega)
        have HWK := Lib.hid hwk
        clear hwk
        have HTK := Lib.hid htk
        have HLE := Lib.hid hle
        have HL8 := Lib.hid hl8
        have HLT := Lib.hid hlt
        have HAT := Lib.hid hat
        have HO := Lib.hid (And.intro o2 o4)
        obtain ⟨b, off, rfl, _, _, hb, hlc, hcm⟩ := hat _ hK
        clear htk hle hl8 hlt hat o1 o2 o3 o4 hk hb hlc hcm
        go_wp2_with fail
        go_loopw [5, 3] (fun j u wx => ∃ q : Nat, q ≤ m ∧ j = .int .i64 q ∧ wx.ownsRow w.heap.size 3 1 u ((secsL (l.take k)).length + q) (intsV (secsL (l.take k)) ++ intsV ((List.range q).map fun i => a + i)) ∧ Kept [] w wx) (fun j _ _ => m - (intOf j).toNat)
        case atStart => exact ⟨0, Nat.zero_le _, rfl, by simpa [intsV] using hrow, hK⟩
        case round =>
          clear hrow hK
          obtain ⟨q, hq, rfl, hrow, hK⟩ := hrel
          obtain ⟨b', off', e', c0, c1, hb, hlc, hcm⟩ := HAT.out _ hK
          obtain ⟨rfl, rfl⟩ : b = b' ∧ off = off' := by simpa using e'
          by_cases hqm : q < m
          · obtain ⟨pu, cu, rfl⟩ := own_shape hrow
            have hle1 := HLE.out (q + 1) (by omega)
            have hl8 := HL8.out
            have i2 : (q : Int) < m := by omega
            have HWJ : Hid (wrap64 ((q : Int) + 1) = (q : Int) + 1) := Lib.hid (IntWalk.wrap64_in _ (by have := HO.out; omega))
            have HWA : Hid (wrap64 ((a : Int) + (q : Int)) = (a : Int) + (q : Int)) := Lib.hid (IntWalk.wrap64_in _ (by have := HO.out; omega))
            have HQM := Lib.hid hqm
            clear i2 hqm
            have r3 : (secsL (l.take k)).length + q + 1 ≤ maxLen := by unfold maxLen; omega
            have r4 : ((secsL (l.take k)).length + q + 1) * 8 ≤ 140737488355328 := by omega
            have i2 : (q : Int) < m := by have := HQM.out; omega
            have hs2 := hK.size
            clear hq hle1 hl8
            have HR3 := Lib.hid r3
            have HR4 := Lib.hid r4
            clear r3 r4
            have hw := HWA.out
            go_wp2_with (at_builtin; go_must (refine wpList_append_own_at _ rfl (.tmp 25) (.tmp 33) 24 rfl w.heap.size 3 i0 (.int .i64 0) 1 8 Try.underlying24 q0 q1 q2 q3 rfl (by decide) _ _ _ rfl (World.ownsRow.alloc hrow _) ⟨wr.heap.size, 0, none⟩ 1 1 [.int .i64 ((a : Int) + (q : Int))] rfl rfl ?_ ?_ HR3.out HR4.out ?_ ?_))
            · rfl
            · clear hw; first | omega | (simp; omega)
            intro v6 w6 o6 gr6 _ _
            have k6 : Kept [] w w6 := (hK.alloc _).grown gr6 (fun g hg => Or.inr (World.ownsRow.lt hrow g hg).1)
            have HO6 := Lib.hid o6
            clear gr6 hrow o6 hw
            go_wp2_with fail
            go_roundw
            case rel => exact ⟨q + 1, HQM.out, by simp [HWJ.out], by simpa [intsV, List.range_succ, ← Nat.add_assoc] using HO6.out, k6⟩
            case measure => (have hh := HQM.out; simp only [HWJ.out]; simp [intOf]; omega)
          · obtain rfl : q = m := by omega
            have HRW := Lib.hid hrow
            clear hrow
            go_wp2_with fail
            go_roundw
            case rel => exact ⟨k + 1, HLT.out, by simp [HWK.out], by rw [HTK.out]; simpa [intsV] using HRW.out, hK⟩
            case measure => (have hh := HLT.out; simp [intOf]; (have e := HWK.out; try rw [e]); omega)
      · obtain rfl : k = l.length := by omega
        rw [List.take_length] at hrow
        go_wp2_with fail
        go_ret
        exact ⟨_, rfl, by rw [E0.out]; exact hrow, hK⟩
end Go.Proofs.Ytdnbddhjdokbfaa

/- Walks of the reference of layer 1 (pack). -/
namespace Go.Proofs.Ytdnbddhjdokbfaa
open Go.RowKit
set_option linter.unusedVariables false
set_option linter.unusedSimpArgs false


theorem kcell {S : List Nat} {W w1 : World} (h : Kept S W w1) : ∀ b o, b < W.heap.size → b ∉ S → w1.cell? ⟨b, o, none⟩ = W.cell? ⟨b, o, none⟩ := fun b o hb hS => h.cell (a := ⟨b, o, none⟩) hb hS
theorem kcell0 {W w1 : World} (h : Kept [] W w1) : ∀ b o, b < W.heap.size → w1.cell? ⟨b, o, none⟩ = W.cell? ⟨b, o, none⟩ := fun b o hb => h.cell (a := ⟨b, o, none⟩) hb (by simp)

theorem conv_one (c : UInt8) (B : Nat) (W : World) (h : W.cell? ⟨B, 0, none⟩ = some (.int .u8 (c.toNat : Int))) : (convert 38 9 (.slice (some ⟨B, 0, none⟩) 1 1)).run Try.prog W = .ok (.string (bs [c])) W := by
  have hb : Lib.Bytes W B 0 (bs [c]) := by
    intro i hi
    rw [bs_size] at hi
    have : i = 0 := by simp at hi; exact hi
    subst this
    rw [Nat.zero_add, h]; rfl
  have := Lib.run_convert_whole (P := Try.prog) W 38 5 9 Try.underlying38 Try.underlying5 Try.underlying9 B 0 (bs [c]) hb 1
  rw [bs_size] at this
  exact this

set_option maxRecDepth 100000 in
theorem rFill (s : ByteArray) (n : Int) (w : World) (hs : s.size ≤ 1000000) (hn : n ≤ 1000000) :
    Calls Try.prog 75 #[.string s, .int .i64 n] w fun e w' => e = .returned (.string (bs (fillL s.data.toList n))) ∧ Kept [] w w' := by
  by_cases hle : n ≤ s.size
  · have e : fillL s.data.toList n = s.data.toList := by
      unfold fillL; rw [size_data, show (n - (s.size : Int)).toNat = 0 from by omega]; simp
    rw [e, bs_of]
    clear e
    go_enter Try.func75, Try.ntmps75
    go_wp2_with fail
    go_ret
    exact ⟨rfl, Kept.refl _ _⟩
  · obtain ⟨d, hd⟩ : ∃ d : Nat, n - (s.size : Int) = d := ⟨(n - s.size).toNat, by omega⟩
    have e : fillL s.data.toList n = s.data.toList ++ List.replicate d 0 := by
      unfold fillL; rw [size_data, show (n - (s.size : Int)).toNat = d from by omega]
    have hi : (Try.prog.info? 5).map (fun i => (i.zero, i.size, i.bytes)) = some (some (.int .u8 0), 1, 1) := by kernel_rfl
    obtain ⟨i0, hi0, hz0, hz1, hz2⟩ := info_parts hi
    have hmk : ∀ w : World, (Instr.makeSlice 38 (.int .i64 d) (.int .i64 d)).run Try.prog w = .ok (.slice (some ⟨w.heap.size, 0, none⟩) d d) (w.alloc (.cells (bcells (List.replicate d 0)) 5)) := fun w => by
      have h := run_make (P := Try.prog) w 38 5 i0 (.int .u8 0) Try.underlying38 hi0 hz0 .i64 .i64 d d (by omega) (by omega) (by rw [hz2]; omega) (by omega)
      rw [h, hz1]
      congr 3
      apply Array.toList_inj.1
      simp [bcells, Value.cells, toList_madeCells_one]
    have hconv := Lib.run_convert_whole (P := Try.prog) _ 38 5 9 Try.underlying38 Try.underlying5 Try.underlying9 _ _ _ (own_bytes (Own.new w (bcells (List.replicate d 0)) 5)) d
    rw [bs_size, List.length_replicate] at hconv
    have hz : (bs (List.replicate d 0)).size ≤ 1000000 := by rw [bs_size]; simp; omega
    have hfin : Hid (s ++ bs (List.replicate d 0) = bs (s.data.toList ++ List.replicate d 0)) := by
      show s ++ bs (List.replicate d 0) = _
      rw [← bs_append, bs_of]
    rw [e]
    have hlt : (s.size : Int) < n := by omega
    generalize List.replicate d (0 : UInt8) = R at *
    clear e hle
    go_enter Try.func75, Try.ntmps75
    go_wp2_with fail
    go_ret
    exact ⟨by show Ending.returned (Value.string (s ++ bs R)) = _; rw [hfin.out], (Kept.refl _ _).alloc _⟩
end Go.Proofs.Ytdnbddhjdokbfaa

/- Layer 12 (blob): bytes put, as the document says. -/
namespace Go.Proofs.Ytdnbddhjdokbfaa
open Go.RowKit Go.Shelf
set_option linter.unusedVariables false
set_option linter.unusedSimpArgs false

theorem need_at {n : Int} {k m : Nat} (h : (m : Int) = need n) (hk : k < m) : 128 * (k : Int) < n := by
  unfold need at h
  split at h <;> omega
theorem row_at {w : World} {base : Nat} {rv : Value} {al : List Nat} (h : w.ownsRow base 3 1 rv al.length (intsV al)) {k : Nat} (hk : k < al.length) :
    ∃ g c, rv = .slice (some ⟨g, 0, none⟩) al.length c ∧ w.cell? ⟨g, k, none⟩ = some (.int .i64 ((al[k] : Nat) : Int)) ∧ g < w.heap.size ∧ base ≤ g ∧ al.length ≤ c ∧ c ≤ maxLen := by
  rcases h.2 with ⟨_, h0⟩ | ⟨g, c, cur, rfl, h1, h2, h3, h4, _⟩
  · omega
  · refine ⟨g, c, rfl, ?_, lt_of_block h2, h1, h3, h4⟩
    have := h.cells (g := g) rfl k (.int .i64 ((al[k] : Nat) : Int)) (by simp [intsV, hk])
    rwa [addr_add] at this
set_option maxRecDepth 100000 in
set_option maxHeartbeats 4000000 in
theorem qput {Inv : DK → World → Prop} {r lim : Nat} (O : QBOps Inv r lim) (d : DK) (v : Value) (l : List (Int × Int)) (s : List UInt8) (lo hi : Nat) (w : World) (hI : Inv d w) (hlim : lim ≤ w.heap.size) (h : RunsIn w v l lo hi) (hl : l.length ≤ 1000000) (hwf : ∀ a ∈ l, WfRun a)
    (hs : s.length ≤ 1048576) (ho : d.ops ≤ 90000) (hw : d.waits.length ≤ 1800) :
    Calls Try.prog 52 #[.pointer (some ⟨r, 0, none⟩), v, .string (bs s)] w (PutSays Inv lim d l s w) := by
  have hsz : (bs s).size = s.length := bs_size s
  obtain ⟨n1, n2⟩ := O.ops.len hI
  have HF : ∀ W, Kept [] w W → Calls Try.prog 11 #[v, .int .i64 d.stand.length, .int .i64 s.length] W (FitSays l d.stand.length s.length W) := fun W k => qFit v l _ _ lo hi W (h.kept0 k) hl hwf (wf_few (by omega)) (wf_few (by omega))
  have HL : ∀ W, Kept [] w W → Calls Try.prog 9 #[v] W fun e w' => ∃ u, e = .returned u ∧ w'.ownsRow W.heap.size 3 1 u (secsE l).length (intsV (secsE l)) ∧ Kept [] W w' := fun W k => qList v l lo hi W (h.kept0 k) hl hwf
  have HI : ∀ W, Kept [] w W → Inv d W := fun W k => O.ops.keep hI k
  have HC : ∀ W, Kept [] w W → ∃ p c, W.cell? ⟨r, 0, none⟩ = some (.slice p d.stand.length c) := fun W k => O.stands (HI W k)
  have HD : ∀ W, Kept [] w W → W.cell? ⟨r, 4, none⟩ = some (.bool d.down) := fun W k => O.ops.down (HI W k)
  clear h hwf
  have k0 := Kept.refl [] w
  obtain ⟨ps, cs, c0⟩ := HC w k0
  obtain ⟨N, hN⟩ : ∃ N : Nat, d.stand.length = N := ⟨_, rfl⟩
  rw [hN] at c0 HF n1 n2
  by_cases hX : FitX l N s.length
  · by_cases hd : d.down = true
    · have hr : putX d l s = (d, 90) := by unfold putX; rw [hN, if_pos hX, if_pos hd]
      have HR : Hid (∀ W, Kept [] w W → PutSays Inv lim d l s w (.returned (.int .i64 90)) W) := Lib.hid (fun W k => putSays_of hr (HI W k) (k.asideW lim))
      have HXX := Lib.hid hX
      rw [hd] at HD
      clear hr hX hd hI HC HL hN
      go_enter Try.func52, Try.ntmps52
      go_wp2_with fail
      refine (HF _ k0).mono ?_; rintro e w1 ⟨q, rfl, hq, k1⟩
      obtain rfl : q = true := hq.2 HXX.out
      have c4 := HD _ k1
      clear hq HF HD
      go_wp2_with fail
      go_ret
      exact HR.out _ k1
    · have hPX : putX d l s = putL (secsL l) d s := by unfold putX; rw [hN, if_pos hX, if_neg hd]
      have hsecs := hX.secs
      have hsE : secsE l = secsL l := secsE_fit hX
      have hal : (secsL l).length ≤ 8192 := by rw [← hsE]; exact secsE_le l
      rw [show d.down = false by simpa using hd] at HD
      rw [hsE] at HL
      generalize secsL l = al at *
      obtain ⟨R, hR⟩ : ∃ R, putL al d s = R := ⟨_, rfl⟩
      rw [hR] at hPX
      have HPX := Lib.hid hPX
      have HRR := Lib.hid hR
      have HXX := Lib.hid hX
      have HSC := Lib.hid hsecs
      clear hX hd hsE hR hPX hsecs HC hN
      go_enter Try.func52, Try.ntmps52
      go_wp2_with fail
      refine (HF _ k0).mono ?_; rintro e w1 ⟨q, rfl, hq, k1⟩
      obtain rfl : q = true := hq.2 HXX.out
      have c4 := HD _ k1
      clear hq HF HD
      go_wp2_with fail
      refine (HL _ k1).mono ?_; rintro e w2 ⟨u, rfl, hrow, k2⟩
      have k12 := k1.trans k2
      have hI2 := HI _ k12
      have hs1 := k1.size
      have HI2 := Lib.hid hI2
      have HRW := Lib.hid hrow
      clear HI HL hI hrow c4 c0 hI2
      obtain ⟨pu, cu, rfl⟩ := own_shape HRW.out
      go_wp2_with fail
      go_loopw [8] (fun i wx => ∃ (k : Nat) (d' : DK), i = .int .i64 k ∧ k ≤ al.length ∧ Inv d' wx ∧ AsideW lim w wx ∧ wx.ownsRow w1.heap.size 3 1 (.slice pu al.length cu) al.length (intsV al) ∧ putL (al.drop k) d' (s.drop (128 * k)) = R ∧ d'.ops + (al.length - k) ≤ 99000 ∧ d'.waits.length + (al.length - k) ≤ 10000) (fun i _ => al.length - (intOf i).toNat)
      case atStart => exact ⟨0, d, rfl, Nat.zero_le _, HI2.out, k12.asideW lim, HRW.out, HRR.out, by omega, by omega⟩
      case round =>
        obtain ⟨k, d', rfl, hk, hI', hA, hrw, hP, b1, b2⟩ := hrel
        by_cases hlt : k < al.length
        · have hna := need_at HSC.out hlt
          obtain ⟨g, c, e, cg, hg, _, hc1, hc2⟩ := row_at hrw hlt
          injection e with e1 e2 e3
          subst e1; subst e3
          rw [putL_step hlt] at hP
          have hwr := fun W (k' : Kept [] wr W) => O.writeB ((al[k] : Nat) : Int) (chunk (s.drop (128 * k))) (O.ops.keep hI' k') (by omega) (by omega)
          have hops := wNext_ops d' ((al[k] : Nat) : Int) (chunk (s.drop (128 * k)))
          rw [List.drop_drop] at hP
          obtain ⟨x, hx⟩ : ∃ x, al[k] = x := ⟨_, rfl⟩
          rw [hx] at cg hwr hops hP
          generalize wCode d' ((x : Nat) : Int) (chunk (s.drop (128 * k))) = C at *
          generalize wNext d' ((x : Nat) : Int) (chunk (s.drop (128 * k))) = dn at *
          have HW := Lib.hid hwr
          have HOPS := Lib.hid hops
          have HP := Lib.hid hP
          have HRW' := Lib.hid hrw
          have HK : Hid (Kept [] wr wr) := Lib.hid (Kept.refl _ _)
          have i1 : (k : Int) < al.length := by omega
          have i2 : (al.length : Int) ≤ 8192 := by omega
          obtain ⟨m, hm⟩ : ∃ m : Nat, min (s.length : Int) ((k : Int) * 128 + 128) = m := ⟨(min (s.length : Int) ((k : Int) * 128 + 128)).toNat, by omega⟩
          have hm1 : (k : Int) * 128 ≤ m := by omega
          have hm2 : (m : Int) ≤ s.length := by omega
          have hpf := fun W => rFill ((bs s).extract (k * 128) m) 128 W (by rw [bs_extract, bs_size]; simp; omega) (by omega)
          have ech : fillL ((bs s).extract (k * 128) m).data.toList 128 = chunk (s.drop (128 * k)) := by
            rw [bs_extract, bs_data, Nat.mul_comm 128 k]; unfold chunk
            congr 1
            rcases (by omega : m = k * 128 + 128 ∨ (m = s.length ∧ s.length ≤ k * 128 + 128)) with e | ⟨e, e'⟩
            · rw [e, Nat.add_sub_cancel_left]
            · rw [List.take_of_length_le (by rw [List.length_drop]; omega), List.take_of_length_le (by rw [List.length_drop]; omega)]
          rw [ech] at hpf
          have HPF := Lib.hid hpf
          have kk : Kept [] wr wr.drew := (Kept.refl _ _).drew
          have HS3 : Hid (∀ W W3, Kept [] wr W → AsideW lim W W3 → W3.cell? ⟨g, k, none⟩ = some (.int .i64 ((x : Nat) : Int)) ∧ AsideW lim w W3 ∧ W3.ownsRow w1.heap.size 3 1 (.slice (some ⟨g, 0, none⟩) al.length cu) al.length (intsV al)) := Lib.hid (fun W W3 q a => by
            have r3 := a.row (ownsRow_kept hrw q (by simp)) (by omega) (by decide)
            obtain ⟨g', c', e', c3, _⟩ := row_at r3 hlt
            injection e' with e1 e2 e3
            injection e1 with e1
            injection e1 with e1
            subst e1
            exact ⟨hx ▸ c3, (hA.trans (q.asideW lim)).trans a, r3⟩)
          have HS : Hid (∀ W, Kept [] wr W → W.cell? ⟨g, k, none⟩ = some (.int .i64 ((x : Nat) : Int))) := Lib.hid (fun W q => (HS3.out W W q (AsideW.refl _ _)).1)
          clear hwr hops hP hI' hrw hpf ech hna hA hx
          go_wp2_with fail
          go_region_held3 (fun W => W.cell? ⟨g, k, none⟩ = some (.int .i64 ((x : Nat) : Int))) (go_keep)
            (first
              | (go_at_call 75; ((with_reducible refine (HPF.out _).mono ?_)); rintro e w3 ⟨rfl, k3⟩; have kk := kk.trans k3; have cg := HS.out _ kk)
              | (go_at_call 74; ((with_reducible refine (HW.out _ kk).mono ?_)); rintro e w4 ⟨rfl, hI4, hA4⟩; have cg := (HS3.out _ _ kk hA4).1))
          all_goals
            obtain ⟨_, hA4', hr4⟩ := HS3.out _ _ kk hA4
            have HA4 := Lib.hid hA4'
            have HR4 := Lib.hid hr4
            have HI4 := Lib.hid hI4
            clear hA4' hr4 hA4 hI4 HS3 HS
            by_cases hC : C = 0
            · subst hC
              have hP2 := HP.out
              rw [if_pos rfl] at hP2
              have HP2 := Lib.hid hP2
              clear hP2 HP
              go_wp2_with fail
              go_roundw
              case rel => exact ⟨k + 1, dn, congrArg (Value.int .i64) (by omega), hlt, HI4.out, HA4.out, HR4.out, by rw [← HP2.out, Nat.mul_add], by have := HOPS.out; omega, by have := HOPS.out; omega⟩
              case measure => simp [intOf]; omega
            · have hP2 := HP.out
              rw [if_neg hC] at hP2
              have hR := Lib.hid (putSays_of (Inv := Inv) (lim := lim) (w := w) (HPX.out.trans hP2.symm) HI4.out HA4.out)
              clear hP2 HP
              go_wp2_with fail
              go_ret
              exact hR.out
        · obtain rfl : k = al.length := by omega
          rw [List.drop_length] at hP
          have hR := Lib.hid (putSays_of (Inv := Inv) (lim := lim) (w := w) (HPX.out.trans hP.symm) hI' hA)
          clear hP hI' hA hrw
          go_wp2_with fail
          go_ret
          exact hR.out
  · have hr : putX d l s = (d, 1) := by unfold putX; rw [hN, if_neg hX]
    have HR : Hid (∀ W, Kept [] w W → PutSays Inv lim d l s w (.returned (.int .i64 1)) W) := Lib.hid (fun W k => putSays_of hr (HI W k) (k.asideW lim))
    have HXX := Lib.hid hX
    clear hr hX hI HC HL hN HD
    go_enter Try.func52, Try.ntmps52
    go_wp2_with fail
    refine (HF _ k0).mono ?_; rintro e w1 ⟨q, rfl, hq, k1⟩
    obtain rfl : q = false := by
      cases q
      · rfl
      · exact absurd (hq.1 rfl) HXX.out
    clear hq HF
    go_wp2_with fail
    go_ret
    exact HR.out _ k1
end Go.Proofs.Ytdnbddhjdokbfaa
