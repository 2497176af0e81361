/- Layer 13 (journal): the first bytes of an area, as the document loads them. -/
import Derived.Test.YtegbekeopgponaaG14
import Derived.Test.YtegbekeopgponaaG35
namespace Go.Proofs.Ytegbekeopgponaa
open Go.RowKit
set_option linter.unusedVariables false
set_option linter.unusedSimpArgs false

set_option maxRecDepth 100000 in
set_option maxHeartbeats 2000000 in
theorem qload {Inv : DK → World → Prop} {r : Nat} (O : QOps Inv r) {w : World} {d : DK} (h : Inv d w) (j u : Int) (hc : fitCode d.stand.length j u = 0) :
    Calls Try.prog 33 #[.pointer (some ⟨r, 0, none⟩), .int .i64 u] w fun e w' => e = .returned (.tuple #[.string (bs (loadL d j u)), .int .i64 (loadCode d j u)]) ∧ w = w' := by
  obtain ⟨c1, c2, c3, c4⟩ := fit_ok hc
  obtain ⟨n1, n2⟩ := O.len h
  have hd := O.down h
  cases hdn : d.down
  · have el : loadCode d j u = 0 := by unfold loadCode; rw [if_neg (by omega), if_neg (by rw [hdn]; simp)]
    have es : loadL d j u = (readsL d (need u).toNat).take u.toNat := by unfold loadL; rw [if_pos el]
    rw [el, es]
    rw [hdn] at hd
    have hrd := fun (k : Nat) (hk : 2 + k < d.stand.length) => O.readC (2 + (k : Int)) h
    have hat : ∀ k : Nat, 2 + k < d.stand.length → rVal d (2 + (k : Int)) = seen d (2 + k) ∧ atOf d (2 + (k : Int)) = 0 := fun k hk => by
      have e : atOf d (2 + (k : Int)) = 0 := by
        unfold atOf
        rw [hdn, if_neg (by simp), if_neg (by omega)]
      refine ⟨?_, e⟩
      unfold rVal
      rw [if_pos e]
      congr 1
    have hrd2 : ∀ k : Nat, 2 + k < d.stand.length → Calls Try.prog 76 #[.pointer (some ⟨r, 0, none⟩), .int .i64 (2 + (k : Int))] w fun e w' => e = .returned (.tuple #[.string (bs (seen d (2 + k))), .int .i64 0]) ∧ w = w' := fun k hk => by
      have h1 := hrd k hk
      rw [(hat k hk).1, (hat k hk).2] at h1
      exact h1
    have hln : ∀ k : Nat, 2 + k ≤ d.stand.length → (readsL d k).length = 128 * k := fun k hk => readsL_len (O.fit h) k hk
    have hsl : ∀ k : Nat, 2 + k < d.stand.length → (seen d (2 + k)).length = 128 := fun k hk => seen_len (O.fit h) hk
    have hnd : 0 ≤ need u ∧ need u + 2 ≤ d.stand.length ∧ u ≤ 128 * need u ∧ 128 * need u < u + 128 := by
      unfold need
      split
      · omega
      · omega
    obtain ⟨nd, hnd1⟩ := Int.eq_ofNat_of_zero_le hnd.1
    obtain ⟨un, rfl⟩ := Int.eq_ofNat_of_zero_le c3
    rw [hnd1] at hnd ⊢
    obtain ⟨_, hnd2, hnd3, hnd4⟩ := hnd
    rw [Int.toNat_natCast, Int.toNat_natCast]
    have HR := Lib.hid hrd2
    have HL := Lib.hid hln
    have HS := Lib.hid hsl
    clear hrd hrd2 hln hsl hat el es hdn hc h hnd1
    generalize d.stand.length = n at *
    go_enter Try.func33, Try.ntmps33
    go_wp2_with fail
    go_loop [6, 7] (fun t i => ∃ k : Nat, k ≤ nd ∧ i = .int .i64 k ∧ t = .string (bs (readsL d k))) (fun _ i => nd - (intOf i).toNat)
    case atStart => exact ⟨0, by omega, rfl, rfl⟩
    case round =>
      obtain ⟨k, hk, rfl, rfl⟩ := hrel
      have hlk := HL.out k (by omega)
      by_cases hlt : k < nd
      · have hrk := HR.out k (by omega)
        have hsk := HS.out k (by omega)
        have HRK := Lib.hid hrk
        have hstr : Hid (bs (readsL d k) ++ bs (seen d (2 + k)) = bs (readsL d (k + 1))) := by show _ = _; rw [bs_append, readsL_succ]
        have y0 : (bs (readsL d k)).size ≤ 2000000 := by rw [bs_size, hlk]; omega
        have y1 : (bs (seen d (2 + k))).size = 128 := by rw [bs_size, hsk]
        have yy : (bs (readsL d k) ++ bs (seen d (2 + k))).size = (bs (readsL d k)).size + (bs (seen d (2 + k))).size := ByteArray.size_append
        have i1 : (k : Int) * 128 < un := by omega
        have i2 : (nd : Int) ≤ 8192 := by omega
        have i3 : (k : Int) < 8192 := by omega
        have HLT := Lib.hid hlt
        clear hrk hsk hlk
        generalize bs (seen d (2 + k)) = S1 at *
        generalize bs (readsL d k) = S0 at *
        go_wp2_with fail
        refine HRK.out.mono ?_; rintro e w' ⟨rfl, rfl⟩
        go_wp2_with fail
        go_round
        case rel => exact ⟨k + 1, HLT.out, by go_num, by rw [← hstr.out]⟩
        case measure => (have hh := HLT.out; simp [intOf]; omega)
      · obtain rfl : k = nd := by omega
        have hex : Hid ((bs (readsL d k)).extract 0 un = bs ((readsL d k).take un)) := by show _ = _; rw [bs_extract]; simp
        have y0 : (bs (readsL d k)).size = 128 * k := by rw [bs_size, hlk]
        have y1 : un ≤ (bs (readsL d k)).size := by omega
        have y2 : (un : Int) ≤ (bs (readsL d k)).size := by omega
        have y3 : (0 : Int) ≤ un := by omega
        have i1 : (un : Int) ≤ (k : Int) * 128 := by omega
        have i3 : (k : Int) ≤ 8192 := by omega
        generalize bs (readsL d k) = S0 at *
        go_wp2_with fail
        go_ret2
        exact ⟨by rw [← hex.out]; rfl, rfl⟩
  · have el : loadCode d j u = 90 := by unfold loadCode; rw [if_neg (by omega), if_pos hdn]
    have es : loadL d j u = [] := by unfold loadL; rw [if_neg (by omega)]
    rw [el, es]
    rw [hdn] at hd
    clear el es hc h
    go_enter Try.func33, Try.ntmps33
    go_wp2_with fail
    go_ret2
    exact ⟨rfl, rfl⟩
end Go.Proofs.Ytegbekeopgponaa

/- Layer 13 (journal): bytes appended, as the document does it, over whatever holds its disk. -/
namespace Go.Proofs.Ytegbekeopgponaa
open Go.RowKit
set_option linter.unusedVariables false
set_option linter.unusedSimpArgs false

def QAppSays (Inv : DK → World → Prop) (d : DK) (j u : Int) (s : List UInt8) (w : World) (e : Ending) (w' : World) : Prop :=
  e = .returned (.int .i64 (appendD d j u s).2) ∧ Inv (appendD d j u s).1 w'
theorem qappSays_of {Inv : DK → World → Prop} {d d' : DK} {j u : Int} {s : List UInt8} {C : Int} {w w' : World} (h : appendD d j u s = (d', C)) (hI : Inv d' w') : QAppSays Inv d j u s w (.returned (.int .i64 C)) w' := by
  unfold QAppSays
  rw [h]
  exact ⟨rfl, hI⟩
theorem part_chunk (R : List UInt8) (kk m : Nat) (h : m = R.length ∧ R.length ≤ kk + 128 ∨ m = kk + 128) : fillL ((bs R).extract kk m).data.toList 128 = chunk (R.drop kk) := by
  rw [bs_extract, bs_data]; unfold chunk
  rcases h with ⟨h1, h2⟩ | h1
  · subst h1
    rw [List.take_of_length_le (by rw [List.length_drop]; omega), List.take_of_length_le (by rw [List.length_drop]; omega)]
  · subst h1
    rw [show kk + 128 - kk = 128 from by omega]
set_option maxRecDepth 100000 in
set_option maxHeartbeats 4000000 in
theorem qappend {Inv : DK → World → Prop} {r : Nat} (O : QOps Inv r) {w : World} {d : DK} (h : Inv d w) (j u : Int) (s : List UInt8) (hc : fitCode d.stand.length j u = 0) (hfull : ¬ 128 * j - u < s.length) (hs : s.length ≤ 4000) (ho : d.ops ≤ 40000) (hw : d.waits.length ≤ 10000) :
    Calls Try.prog 30 #[.pointer (some ⟨r, 0, none⟩), .int .i64 u, .string (bs s)] w (QAppSays Inv d j u s w) := by
  have hsz : (bs s).size = s.length := bs_size s
  obtain ⟨c1, c2, c3, c4⟩ := fit_ok hc
  obtain ⟨n1, n2⟩ := O.len h
  have hs' : (s.length : Int) ≤ 4000 := by omega
  have hd := O.down h
  cases hdn : d.down
  · rw [hdn] at hd
    rcases name_cases s with ⟨m1, m2, m3, m4⟩ | ⟨m1, m2, m3⟩
    · subst m1
      have hr := qappSays_of (Inv := Inv) (w := w) (show appendD d j u [] = (d, 0) by unfold appendD; rw [if_neg (by omega), if_neg hfull, if_neg (by rw [hdn]; simp), if_pos rfl]) h
      have HR := Lib.hid hr
      clear hr hc h hfull hdn
      go_enter Try.func30, Try.ntmps30
      go_wp2_with fail
      go_ret
      exact HR.out
    · obtain ⟨un, rfl⟩ := Int.eq_ofNat_of_zero_le c3
      have hq : (un : Int) / 128 = ((un / 128 : Nat) : Int) := by omega
      have hrm : (un : Int) % 128 = ((un % 128 : Nat) : Int) := by omega
      have hat : 2 + un / 128 < d.stand.length := by omega
      have hrd := O.readC (2 + ((un / 128 : Nat) : Int)) h
      have e1 : atOf d (2 + ((un / 128 : Nat) : Int)) = 0 := by unfold atOf; rw [hdn, if_neg (by simp), if_neg (by omega)]
      have e2 : rVal d (2 + ((un / 128 : Nat) : Int)) = seen d (2 + un / 128) := by
        unfold rVal
        rw [if_pos e1]
        congr 1
      rw [e1, e2] at hrd
      have hsl := seen_len (O.fit h) hat
      have hR : appendD d j un s = appAll d (2 + un / 128) ((seen d (2 + un / 128)).take (un % 128) ++ s) := by
        unfold appendD
        rw [if_neg (by omega), if_neg hfull, if_neg (by rw [hdn]; simp), if_neg (by intro e; rw [e] at m3; simp at m3), Int.toNat_natCast]
      have hex : Hid ((bs (seen d (2 + un / 128))).extract 0 (un % 128) ++ bs s = bs ((seen d (2 + un / 128)).take (un % 128) ++ s)) := by
        show _ = _; rw [bs_extract, bs_append]; simp
      have hrl : ((seen d (2 + un / 128)).take (un % 128) ++ s).length ≤ 4128 := by
        rw [List.length_append]
        have := List.length_take_le (un % 128) (seen d (2 + un / 128))
        omega
      have hex2 : ((bs (seen d (2 + un / 128))).extract 0 (un % 128)).size ≤ 128 := by rw [bs_extract, bs_size]; simp; omega
      have y0 : (bs (seen d (2 + un / 128))).size = 128 := by rw [bs_size, hsl]
      have y3 : un % 128 < 128 := Nat.mod_lt _ (by omega)
      have HRD := Lib.hid hrd
      have HAP := Lib.hid hR
      have HI := Lib.hid h
      have hau : 2 + un / 128 ≤ 8192 := by omega
      clear hrd e1 e2 hsl hR hc h hfull hdn hat
      generalize (seen d (2 + un / 128)).take (un % 128) ++ s = R0 at *
      generalize bs (seen d (2 + un / 128)) = SE at *
      generalize un % 128 = um at *
      generalize un / 128 = ud at *
      have i1 : (um : Int) < 128 := by omega
      have i2 : (ud : Int) ≤ 8192 := by omega
      have i3 : (um : Int) ≤ SE.size := by omega
      have yy : (SE.extract 0 um ++ bs s).size = (SE.extract 0 um).size + (bs s).size := ByteArray.size_append
      have hexr : SE.extract 0 um ++ bs s = bs R0 := hex.out
      have hzr : (bs R0).size = R0.length := bs_size R0
      have hrl' : (R0.length : Int) ≤ 4128 := by omega
      go_enter Try.func30, Try.ntmps30
      go_wp2_with fail
      refine HRD.out.mono ?_; rintro e w' ⟨rfl, rfl⟩
      go_wp2_with fail
      go_loopw [10] (fun i wr => ∃ (k : Nat) (d' : DK), i = .int .i64 k ∧ Inv d' wr ∧ appAll d' (2 + ud + k) (R0.drop (k * 128)) = appAll d (2 + ud) R0 ∧ d'.ops ≤ 40000 + k ∧ d'.waits.length ≤ 10000 + k ∧ k * 128 ≤ R0.length + 127) (fun i _ => R0.length + 128 - (intOf i).toNat * 128)
      case atStart => exact ⟨0, d, rfl, HI.out, by simp, by omega, by omega, by omega⟩
      case round =>
        obtain ⟨k, d', rfl, hI, hA, b1, b2, b3⟩ := hrel
        have i4 : (k : Int) ≤ 40 := by omega
        rcases (by omega : R0.length ≤ k * 128 ∨ k * 128 < R0.length) with g1 | g1
        · have g2 : (R0.length : Int) ≤ (k : Int) * 128 := by omega
          rw [List.drop_of_length_le g1, appAll_nil] at hA
          have hr := qappSays_of (Inv := Inv) (w := w) (HAP.out.trans hA.symm) hI
          have HR := Lib.hid hr
          clear hr hA hI
          go_wp2_with fail
          go_ret
          exact HR.out
        · have hne : R0.drop (k * 128) ≠ [] := by intro e; have := congrArg List.length e; rw [List.length_drop] at this; simp at this; omega
          have eA : ((2 + ud + k : Nat) : Int) = 2 + (ud : Int) + k := by omega
          rw [appAll_step hne, eA, List.drop_drop, show k * 128 + 128 = (k + 1) * 128 from by omega] at hA
          have hcl := chunk_len (R0.drop (k * 128))
          have hwr := fun W (q : Kept [] wr W) => O.writeC (2 + (ud : Int) + k) (chunk (R0.drop (k * 128))) (O.keep hI q) (by omega) (by omega)
          have hops := wNext_ops d' (2 + (ud : Int) + k) (chunk (R0.drop (k * 128)))
          obtain ⟨m, hm, hm1, hm2, hm3⟩ : ∃ m : Nat, min (R0.length : Int) ((k : Int) * 128 + 128) = m ∧ (m = R0.length ∧ R0.length ≤ k * 128 + 128 ∨ m = k * 128 + 128) ∧ m ≤ R0.length ∧ k * 128 < m := by
            rcases (by omega : R0.length ≤ k * 128 + 128 ∨ k * 128 + 128 < R0.length) with g | g
            · exact ⟨R0.length, by omega, Or.inl ⟨rfl, g⟩, by omega, by omega⟩
            · exact ⟨k * 128 + 128, by omega, Or.inr rfl, by omega, by omega⟩
          have hpf := fun W => rFill ((bs R0).extract (k * 128) m) 128 W (by rw [bs_extract, bs_size]; simp; omega) (by omega)
          rw [part_chunk R0 (k * 128) m hm1] at hpf
          have HW := Lib.hid hwr
          have HOPS := Lib.hid hops
          have HAA := Lib.hid hA
          have HPF := Lib.hid hpf
          clear hwr hops hA hI hne hcl hpf hm1
          generalize wCode d' (2 + (ud : Int) + k) (chunk (R0.drop (k * 128))) = C at *
          generalize wNext d' (2 + (ud : Int) + k) (chunk (R0.drop (k * 128))) = dn at *
          generalize chunk (R0.drop (k * 128)) = ck at *
          have g3 : (k : Int) * 128 < R0.length := by omega
          have hk8 : (k : Int) * 128 = ((k * 128 : Nat) : Int) := by omega
          have i5 : ((k * 128 : Nat) : Int) ≤ 4300 := by omega
          have i6 : (m : Int) ≤ R0.length := by omega
          have i7 : ((k * 128 : Nat) : Int) < m := by omega
          have b3' : Hid (k * 128 < R0.length) := g1
          rw [hk8] at hm g3
          generalize k * 128 = kk at *
          go_wp2_with fail
          refine (HPF.out _).mono ?_; rintro e w2 ⟨rfl, k2⟩
          go_wp2_with fail
          refine (HW.out _ k2).mono ?_; rintro e w3 ⟨rfl, hI3⟩
          by_cases hC : C = 0
          · subst hC
            have hA2 := HAA.out
            rw [if_pos rfl] at hA2
            have HA2 := Lib.hid hA2
            have HI3 := Lib.hid hI3
            clear hA2 hI3 HAA
            go_wp2_with fail
            go_roundw
            case rel => (try rw [hrm]); (repeat apply Exists.intro); refine ⟨?_, rfl⟩; exact ⟨k + 1, dn, congrArg (Value.int .i64) (by omega), HI3.out, HA2.out, by have := HOPS.out; omega, by have := HOPS.out; omega, by have := b3'.out; omega⟩
            case measure => (have := b3'.out; simp [intOf]; omega)
          · have hA2 := HAA.out
            rw [if_neg hC] at hA2
            have hr := qappSays_of (Inv := Inv) (w := w) (HAP.out.trans hA2.symm) hI3
            have HR := Lib.hid hr
            clear hA2 hr hI3 HAA
            go_wp2_with fail
            go_ret
            exact HR.out
  · rw [hdn] at hd
    have hr := qappSays_of (Inv := Inv) (w := w) (show appendD d j u s = (d, 90) by unfold appendD; rw [if_neg (by omega), if_neg hfull, if_pos hdn]) h
    have HR := Lib.hid hr
    clear hr hc h hfull hdn
    go_enter Try.func30, Try.ntmps30
    go_wp2_with fail
    go_ret
    exact HR.out
end Go.Proofs.Ytegbekeopgponaa

/- Layer 13 (journal): with a normal fuse the same is loaded and appended. -/
namespace Go.Proofs.Ytegbekeopgponaa
open Go.RowKit
set_option linter.unusedVariables false
set_option linter.unusedSimpArgs false

theorem loadCode_nrm (d : DK) (j u : Int) : loadCode (nrm d) j u = loadCode d j u := rfl
theorem loadL_nrm (d : DK) (j u : Int) : loadL (nrm d) j u = loadL d j u := rfl
theorem appD_nrm (f : Nat) (d : DK) (a : Nat) (s : List UInt8) : appD f (nrm d) a s = (nrm (appD f d a s).1, (appD f d a s).2) := by
  induction f generalizing d a s with
  | zero => rfl
  | succ f ih =>
    rw [appD, appD, wCode_nrm, wNext_nrm]
    by_cases hs : s = []
    · rw [if_pos hs, if_pos hs]
    · rw [if_neg hs, if_neg hs]
      by_cases hc : wCode d a (chunk s) = 0
      · rw [if_pos hc, if_pos hc]; exact ih _ _ _
      · rw [if_neg hc, if_neg hc]
theorem appendD_nrm (d : DK) (j u : Int) (s : List UInt8) : appendD (nrm d) j u s = (nrm (appendD d j u s).1, (appendD d j u s).2) := by
  have e1 : (nrm d).stand = d.stand := rfl
  have e2 : (nrm d).down = d.down := rfl
  unfold appendD
  rw [e1, e2, seen_nrm]
  by_cases h1 : fitCode d.stand.length j u ≠ 0
  · rw [if_pos h1, if_pos h1]
  · rw [if_neg h1, if_neg h1]
    by_cases h2 : 128 * j - u < s.length
    · rw [if_pos h2, if_pos h2]
    · rw [if_neg h2, if_neg h2]
      by_cases h3 : d.down = true
      · rw [if_pos h3, if_pos h3]
      · rw [if_neg h3, if_neg h3]
        by_cases h4 : s = []
        · rw [if_pos h4, if_pos h4]
        · rw [if_neg h4, if_neg h4]; exact appD_nrm _ _ _ _
end Go.Proofs.Ytegbekeopgponaa
