/- Layer 13 (journal): whether a journal fits a disk; nobody's disk. -/
import Derived.Test.YtegbekeopgponaaG02
import Derived.Test.YtegbekeopgponaaG04
import Derived.Test.YtegbekeopgponaaG14
import Derived.Test.YtegbekeopgponaaG33
namespace Go.Proofs.Ytegbekeopgponaa
open Go.RowKit
set_option linter.unusedVariables false
set_option linter.unusedSimpArgs false

/-- what is wrong with a journal on a disk of so many sectors. -/
def fitCode (n : Nat) (j u : Int) : Int := if j < 1 ∨ (n : Int) - 2 < j ∨ u < 0 ∨ 128 * j < u then 1 else 0
set_option maxRecDepth 100000 in
set_option maxHeartbeats 1000000 in
theorem jfits {W0 w : World} {b sb mb lo : Nat} {d : DK} (h : Alone W0 w b sb mb lo d) (j u : Int) (hj : (Lit.int .i64 j).wf = true) (hu : (Lit.int .i64 u).wf = true) :
    Calls Try.prog 53 #[.pointer (some ⟨b, 0, none⟩), .int .i64 j, .int .i64 u] w fun e w' => e = .returned (.int .i64 (fitCode d.stand.length j u)) ∧ w = w' := by
  obtain ⟨n1, n2⟩ := h.len
  obtain ⟨j1, j2⟩ := bd64 hj
  obtain ⟨u1, u2⟩ := bd64 hu
  have hd := dLen b sb mb lo d w h.disk
  generalize d.stand.length = n at *
  have HD := Lib.hid hd
  have g0 : ((n : Int) == 0) = false := by rw [beq_eq_false_iff_ne]; omega
  clear hd hj hu h
  rcases (by omega : j < 1 ∨ (1 ≤ j ∧ (n : Int) - 2 < j) ∨ (1 ≤ j ∧ j ≤ (n : Int) - 2 ∧ u < 0) ∨ (1 ≤ j ∧ j ≤ (n : Int) - 2 ∧ 0 ≤ u ∧ 128 * j < u) ∨ (1 ≤ j ∧ j ≤ (n : Int) - 2 ∧ 0 ≤ u ∧ u ≤ 128 * j)) with c1 | ⟨c1, c2⟩ | ⟨c1, c2, c3⟩ | ⟨c1, c2, c3, c4⟩ | ⟨c1, c2, c3, c4⟩
  · have e : fitCode n j u = 1 := by unfold fitCode; rw [if_pos (by omega)]
    rw [e]; clear e
    go_enter Try.func53, Try.ntmps53
    go_wp2_with fail
    refine HD.out.mono ?_; rintro e w' ⟨rfl, rfl⟩
    go_wp2_with fail
    go_ret
    exact ⟨rfl, rfl⟩
  · have e : fitCode n j u = 1 := by unfold fitCode; rw [if_pos (by omega)]
    rw [e]; clear e
    go_enter Try.func53, Try.ntmps53
    go_wp2_with fail
    refine HD.out.mono ?_; rintro e w' ⟨rfl, rfl⟩
    go_wp2_with fail
    refine HD.out.mono ?_; rintro e w' ⟨rfl, rfl⟩
    go_wp2_with fail
    go_ret
    exact ⟨rfl, rfl⟩
  · have e : fitCode n j u = 1 := by unfold fitCode; rw [if_pos (by omega)]
    rw [e]; clear e
    go_enter Try.func53, Try.ntmps53
    go_wp2_with fail
    refine HD.out.mono ?_; rintro e w' ⟨rfl, rfl⟩
    go_wp2_with fail
    refine HD.out.mono ?_; rintro e w' ⟨rfl, rfl⟩
    go_wp2_with fail
    go_ret
    exact ⟨rfl, rfl⟩
  · have e : fitCode n j u = 1 := by unfold fitCode; rw [if_pos (by omega)]
    have hm : j * 128 < u := by omega
    have hm2 : j * 128 ≤ 2000000 := by omega
    have hm3 : 0 ≤ j * 128 := by omega
    rw [e]; clear e
    go_enter Try.func53, Try.ntmps53
    go_wp2_with fail
    refine HD.out.mono ?_; rintro e w' ⟨rfl, rfl⟩
    go_wp2_with fail
    refine HD.out.mono ?_; rintro e w' ⟨rfl, rfl⟩
    go_wp2_with fail
    go_ret
    exact ⟨rfl, rfl⟩
  · have e : fitCode n j u = 0 := by unfold fitCode; rw [if_neg (by omega)]
    have hm : u ≤ j * 128 := by omega
    have hm2 : j * 128 ≤ 2000000 := by omega
    have hm3 : 0 ≤ j * 128 := by omega
    rw [e]; clear e
    go_enter Try.func53, Try.ntmps53
    go_wp2_with fail
    refine HD.out.mono ?_; rintro e w' ⟨rfl, rfl⟩
    go_wp2_with fail
    refine HD.out.mono ?_; rintro e w' ⟨rfl, rfl⟩
    go_wp2_with fail
    go_ret
    exact ⟨rfl, rfl⟩
set_option maxRecDepth 100000 in
theorem jfits_nil (j u : Int) (w : World) : Calls Try.prog 53 #[.pointer none, .int .i64 j, .int .i64 u] w fun e w' => e = .returned (.int .i64 4) ∧ w = w' := by
  go_enter Try.func53, Try.ntmps53
  go_wp2_with fail
  refine (dLen_nil _).mono ?_; rintro e w' ⟨rfl, rfl⟩
  go_wp2_with fail
  go_ret
  exact ⟨rfl, rfl⟩
set_option maxRecDepth 100000 in
theorem jload_nil (j u : Int) (w : World) : Calls Try.prog 15 #[.pointer none, .int .i64 j, .int .i64 u] w fun e w' => e = .returned (.tuple #[.string { data := #[] }, .int .i64 4]) ∧ w = w' := by
  go_enter Try.func15, Try.ntmps15
  go_wp2_with fail
  refine (jfits_nil _ _ _).mono ?_; rintro e w' ⟨rfl, rfl⟩
  go_wp2_with fail
  go_ret2
  exact ⟨rfl, rfl⟩
set_option maxRecDepth 100000 in
theorem jappend_nil (j u : Int) (s : ByteArray) (w : World) : Calls Try.prog 16 #[.pointer none, .int .i64 j, .int .i64 u, .string s] w fun e w' => e = .returned (.tuple #[.int .i64 0, .int .i64 4]) ∧ w = w' := by
  go_enter Try.func16, Try.ntmps16
  go_wp2_with fail
  refine (jfits_nil _ _ _).mono ?_; rintro e w' ⟨rfl, rfl⟩
  go_wp2_with fail
  go_ret2
  exact ⟨rfl, rfl⟩
end Go.Proofs.Ytegbekeopgponaa

/- Layer 13 (journal): the first bytes of an area, as the program loads them. -/
namespace Go.Proofs.Ytegbekeopgponaa
open Go.RowKit
set_option linter.unusedVariables false
set_option linter.unusedSimpArgs false

theorem lastOf_mem {l : List (Nat × List UInt8)} {i : Nat} {s : List UInt8} (h : lastOf l i = some s) : (i, s) ∈ l := by
  suffices ∀ (l m : List (Nat × List UInt8)), m ++ l = m ++ l → ∀ n, n ≤ l.length → lastOf (l.take n) i = some s → (i, s) ∈ l by
    exact this l [] rfl l.length (Nat.le_refl _) (by rwa [List.take_length])
  intro l m _ n
  induction n with
  | zero => intro _ h; rw [List.take_zero, lastOf_nil] at h; cases h
  | succ n ih =>
    intro hn h
    rw [List.take_succ_eq_append_getElem (by omega), lastOf_snoc] at h
    split at h
    · rename_i he
      injection h with h
      have : l[n] = (i, s) := Prod.ext he h
      rw [← this]; exact List.getElem_mem _
    · exact ih (by omega) h
theorem seen_len {d : DK} (hf : Fit d) {i : Nat} (hi : i < d.stand.length) : (seen d i).length = 128 := by
  unfold seen
  cases h : lastOf d.waits i with
  | some s => exact (hf.fine _ (lastOf_mem h)).2
  | none =>
    show (d.stand.getD i []).length = 128
    rw [List.getD_eq_getElem?_getD, List.getElem?_eq_getElem hi]
    exact hf.all _ (List.getElem_mem hi)
/-- the first so many sectors of an area. -/
def readsL (d : DK) (k : Nat) : List UInt8 := ((List.range k).map fun i => seen d (2 + i)).flatten
theorem readsL_succ (d : DK) (k : Nat) : readsL d (k + 1) = readsL d k ++ seen d (2 + k) := by
  unfold readsL; rw [List.range_succ, List.map_append, List.flatten_append]; simp
theorem readsL_len {d : DK} (hf : Fit d) (k : Nat) (hk : 2 + k ≤ d.stand.length) : (readsL d k).length = 128 * k := by
  induction k with
  | zero => rfl
  | succ k ih => rw [readsL_succ, List.length_append, ih (by omega), seen_len hf (by omega)]; omega
def loadCode (d : DK) (j u : Int) : Int := if fitCode d.stand.length j u ≠ 0 then 1 else if d.down = true then 90 else 0
def loadL (d : DK) (j u : Int) : List UInt8 := if loadCode d j u = 0 then (readsL d (need u).toNat).take u.toNat else []
theorem fit_ok {n : Nat} {j u : Int} (h : fitCode n j u = 0) : 1 ≤ j ∧ j ≤ (n : Int) - 2 ∧ 0 ≤ u ∧ u ≤ 128 * j := by
  unfold fitCode at h
  split at h
  · omega
  · omega
theorem fit_no {n : Nat} {j u : Int} (h : fitCode n j u ≠ 0) : fitCode n j u = 1 := by
  unfold fitCode at h ⊢
  by_cases hc : j < 1 ∨ (n : Int) - 2 < j ∨ u < 0 ∨ 128 * j < u
  · rw [if_pos hc]
  · rw [if_neg hc] at h; exact absurd rfl h
set_option maxRecDepth 100000 in
set_option maxHeartbeats 2000000 in
theorem jload {W0 w : World} {b sb mb lo : Nat} {d : DK} (h : Alone W0 w b sb mb lo d) (j u : Int) (hj : (Lit.int .i64 j).wf = true) (hu : (Lit.int .i64 u).wf = true) :
    Calls Try.prog 15 #[.pointer (some ⟨b, 0, none⟩), .int .i64 j, .int .i64 u] w fun e w' => e = .returned (.tuple #[.string (bs (loadL d j u)), .int .i64 (loadCode d j u)]) ∧ w = w' := by
  have hf := jfits h j u hj hu
  by_cases hc : fitCode d.stand.length j u = 0
  · obtain ⟨c1, c2, c3, c4⟩ := fit_ok hc
    obtain ⟨n1, n2⟩ := h.len
    have hd := dDown b sb mb lo d w h.disk
    rw [hc] at hf
    cases hdn : d.down
    · have el : loadCode d j u = 0 := by unfold loadCode; rw [if_neg (by omega), if_neg (by rw [hdn]; simp)]
      have es : loadL d j u = (readsL d (need u).toNat).take u.toNat := by unfold loadL; rw [if_pos el]
      rw [el, es]
      rw [hdn] at hd
      have hn := pneed u w hu
      have hrd := fun (k : Nat) (hk : 2 + k < d.stand.length) => h.read (2 + (k : Int))
      have hat : ∀ k : Nat, 2 + k < d.stand.length → rVal d (2 + (k : Int)) = seen d (2 + k) ∧ atOf d (2 + (k : Int)) = 0 := fun k hk => by
        have e : atOf d (2 + (k : Int)) = 0 := by
          unfold atOf
          rw [hdn, if_neg (by simp), if_neg (by omega)]
        refine ⟨?_, e⟩
        unfold rVal
        rw [if_pos e]
        congr 1
      have hrd2 : ∀ k : Nat, 2 + k < d.stand.length → Calls Try.prog 55 #[.pointer (some ⟨b, 0, none⟩), .int .i64 (2 + (k : Int))] w fun e w' => e = .returned (.tuple #[.string (bs (seen d (2 + k))), .int .i64 0]) ∧ w = w' := fun k hk => by
        have h1 := hrd k hk
        rw [(hat k hk).1, (hat k hk).2] at h1
        exact h1
      have hln : ∀ k : Nat, 2 + k ≤ d.stand.length → (readsL d k).length = 128 * k := fun k hk => readsL_len h.fit k hk
      have hsl : ∀ k : Nat, 2 + k < d.stand.length → (seen d (2 + k)).length = 128 := fun k hk => seen_len h.fit hk
      have hnd : 0 ≤ need u ∧ need u + 2 ≤ d.stand.length ∧ u ≤ 128 * need u := by
        unfold need
        split
        · omega
        · omega
      obtain ⟨nd, hnd1⟩ := Int.eq_ofNat_of_zero_le hnd.1
      obtain ⟨un, rfl⟩ := Int.eq_ofNat_of_zero_le c3
      rw [hnd1] at hn hnd ⊢
      obtain ⟨_, hnd2, hnd3⟩ := hnd
      rw [Int.toNat_natCast, Int.toNat_natCast]
      have HF := Lib.hid hf
      have HD := Lib.hid hd
      have HN := Lib.hid hn
      have HR := Lib.hid hrd2
      have HL := Lib.hid hln
      have HS := Lib.hid hsl
      clear hf hd hn hrd hrd2 hln hsl hat el es hdn hc h hnd1
      generalize d.stand.length = n at *
      go_enter Try.func15, Try.ntmps15
      go_wp2_with fail
      refine HF.out.mono ?_; rintro e w' ⟨rfl, rfl⟩
      go_wp2_with fail
      refine HD.out.mono ?_; rintro e w' ⟨rfl, rfl⟩
      go_wp2_with fail
      refine HN.out.mono ?_; rintro e w' ⟨rfl, rfl⟩
      go_wp2_with fail
      go_loop [9, 24] (fun t i => ∃ k : Nat, k ≤ nd ∧ i = .int .i64 k ∧ t = .string (bs (readsL d k))) (fun _ i => nd - (intOf i).toNat)
      case atStart => exact ⟨0, by omega, rfl, rfl⟩
      case round =>
        obtain ⟨k, hk, rfl, rfl⟩ := hrel
        have hlk := HL.out k (by omega)
        by_cases hlt : k < nd
        · have hrk := HR.out k (by omega)
          have hsk := HS.out k (by omega)
          have HRK := Lib.hid hrk
          have hstr : Hid (bs (readsL d k) ++ bs (seen d (2 + k)) = bs (readsL d (k + 1))) := by show _ = _; rw [bs_append, readsL_succ]
          have y0 : (bs (readsL d k)).size ≤ 2000000 := by rw [bs_size, hlk]; omega
          have y1 : (bs (seen d (2 + k))).size = 128 := by rw [bs_size, hsk]
          have yy : (bs (readsL d k) ++ bs (seen d (2 + k))).size = (bs (readsL d k)).size + (bs (seen d (2 + k))).size := ByteArray.size_append
          have i1 : (k : Int) < nd := by omega
          have i2 : (nd : Int) ≤ 8192 := by omega
          have HLT := Lib.hid hlt
          clear hrk hsk hlk
          generalize bs (seen d (2 + k)) = S1 at *
          generalize bs (readsL d k) = S0 at *
          go_wp2_with fail
          refine HRK.out.mono ?_; rintro e w' ⟨rfl, rfl⟩
          go_wp2_with fail
          go_round
          case rel => exact ⟨k + 1, HLT.out, by go_num, by rw [← hstr.out]⟩
          case measure => (have hh := HLT.out; simp [intOf]; omega)
        · obtain rfl : k = nd := by omega
          have hex : Hid ((bs (readsL d k)).extract 0 un = bs ((readsL d k).take un)) := by show _ = _; rw [bs_extract]; simp
          have y0 : (bs (readsL d k)).size = 128 * k := by rw [bs_size, hlk]
          have y1 : un ≤ (bs (readsL d k)).size := by omega
          have y2 : (un : Int) ≤ (bs (readsL d k)).size := by omega
          have y3 : (0 : Int) ≤ un := by omega
          generalize bs (readsL d k) = S0 at *
          go_wp2_with fail
          go_ret2
          exact ⟨by rw [← hex.out]; rfl, rfl⟩
    · have el : loadCode d j u = 90 := by unfold loadCode; rw [if_neg (by omega), if_pos hdn]
      have es : loadL d j u = [] := by unfold loadL; rw [if_neg (by omega)]
      rw [el, es]
      rw [hdn] at hd
      have HF := Lib.hid hf
      have HD := Lib.hid hd
      clear hf hd el es hc h
      go_enter Try.func15, Try.ntmps15
      go_wp2_with fail
      refine HF.out.mono ?_; rintro e w' ⟨rfl, rfl⟩
      go_wp2_with fail
      refine HD.out.mono ?_; rintro e w' ⟨rfl, rfl⟩
      go_wp2_with fail
      go_ret2
      exact ⟨rfl, rfl⟩
  · have hc1 := fit_no hc
    have el : loadCode d j u = 1 := by unfold loadCode; rw [if_pos hc]
    have es : loadL d j u = [] := by unfold loadL; rw [if_neg (by omega)]
    rw [el, es]
    rw [hc1] at hf
    have HF := Lib.hid hf
    clear hf el es hc hc1 h
    go_enter Try.func15, Try.ntmps15
    go_wp2_with fail
    refine HF.out.mono ?_; rintro e w' ⟨rfl, rfl⟩
    go_wp2_with fail
    go_ret2
    exact ⟨rfl, rfl⟩
end Go.Proofs.Ytegbekeopgponaa

/- Layer 13 (journal): bytes appended, over whatever holds a disk. -/
namespace Go.Proofs.Ytegbekeopgponaa
open Go.RowKit
set_option linter.unusedVariables false
set_option linter.unusedSimpArgs false

/-- what a caller of a disk's calls needs of whatever holds the disk at b. -/
structure DOps (Inv : DK → World → Prop) (b : Nat) : Prop where
  len : ∀ {d w}, Inv d w → 1 ≤ d.stand.length ∧ d.stand.length ≤ 8192
  fit : ∀ {d w}, Inv d w → Fit d
  keep : ∀ {d w w'}, Inv d w → Kept [] w w' → Inv d w'
  lenC : ∀ {d w}, Inv d w → Calls Try.prog 96 #[.pointer (some ⟨b, 0, none⟩)] w fun e w' => e = .returned (.int .i64 d.stand.length) ∧ w = w'
  downC : ∀ {d w}, Inv d w → Calls Try.prog 32 #[.pointer (some ⟨b, 0, none⟩)] w fun e w' => e = .returned (.bool d.down) ∧ w = w'
  readC : ∀ {d w} (i : Int), Inv d w → Calls Try.prog 55 #[.pointer (some ⟨b, 0, none⟩), .int .i64 i] w fun e w' => e = .returned (.tuple #[.string (bs (rVal d i)), .int .i64 (atOf d i)]) ∧ w = w'
  writeC : ∀ {d w} (i : Int) (s : List UInt8), Inv d w → d.ops < 100000 → d.waits.length ≤ 10000 → Calls Try.prog 56 #[.pointer (some ⟨b, 0, none⟩), .int .i64 i, .string (bs s)] w fun e w' => e = .returned (.int .i64 (wCode d i s)) ∧ Inv (wNext d i s) w'
theorem aloneOps (W0 : World) (b sb mb lo : Nat) : DOps (fun d w => Alone W0 w b sb mb lo d) b where
  len := fun h => h.len
  fit := fun h => h.fit
  keep := fun h k => h.keep0 k
  lenC := fun h => dLen b sb mb lo _ _ h.disk
  downC := fun h => dDown b sb mb lo _ _ h.disk
  readC := fun i h => h.read i
  writeC := fun i s h ho hw => (h.write i s ho hw).mono fun e w' hh => ⟨hh.1, hh.2.1⟩
theorem wNext_ops (d : DK) (i : Int) (s : List UInt8) : (wNext d i s).ops ≤ d.ops + 1 ∧ (wNext d i s).waits.length ≤ d.waits.length + 1 ∧ (wNext d i s).stand.length = d.stand.length := by
  unfold wNext
  split
  · unfold writeD; simp
  · simp
/-- the next sector of what is to be written. -/
def chunk (s : List UInt8) : List UInt8 := fillL (s.take 128) 128
theorem chunk_len (s : List UInt8) : (chunk s).length = 128 := by
  unfold chunk fillL
  have : (s.take 128).length ≤ 128 := List.length_take_le _ _
  rw [List.length_append, List.length_replicate]; omega
/-- bytes written, sector by sector. -/
def appD : Nat → DK → Nat → List UInt8 → DK × Int
  | 0, d, _, _ => (d, 0)
  | f + 1, d, a, s => if s = [] then (d, 0) else if wCode d a (chunk s) = 0 then appD f (wNext d a (chunk s)) (a + 1) (s.drop 128) else (wNext d a (chunk s), wCode d a (chunk s))
theorem appD_fuel (f g : Nat) (d : DK) (a : Nat) (s : List UInt8) (hf : s.length ≤ f) (hg : s.length ≤ g) : appD f d a s = appD g d a s := by
  induction f generalizing g d a s with
  | zero =>
    have : s = [] := List.eq_nil_of_length_eq_zero (by omega)
    subst this
    cases g with
    | zero => rfl
    | succ g => rw [appD, appD, if_pos rfl]
  | succ f ih =>
    cases g with
    | zero =>
      have : s = [] := List.eq_nil_of_length_eq_zero (by omega)
      subst this
      rw [appD, appD, if_pos rfl]
    | succ g =>
      rw [appD, appD]
      by_cases hs : s = []
      · rw [if_pos hs, if_pos hs]
      · have hl : 0 < s.length := List.length_pos_iff.2 hs
        rw [if_neg hs, if_neg hs, ih g _ _ _ (by rw [List.length_drop]; omega) (by rw [List.length_drop]; omega)]
/-- with as much fuel as there are bytes. -/
def appAll (d : DK) (a : Nat) (s : List UInt8) : DK × Int := appD s.length d a s
theorem appAll_nil (d : DK) (a : Nat) : appAll d a [] = (d, 0) := rfl
theorem appAll_step {d : DK} {a : Nat} {s : List UInt8} (hs : s ≠ []) : appAll d a s = if wCode d a (chunk s) = 0 then appAll (wNext d a (chunk s)) (a + 1) (s.drop 128) else (wNext d a (chunk s), wCode d a (chunk s)) := by
  have hl : 0 < s.length := List.length_pos_iff.2 hs
  obtain ⟨f, hf⟩ : ∃ f, s.length = f + 1 := ⟨s.length - 1, by omega⟩
  unfold appAll
  rw [hf, appD, if_neg hs, appD_fuel f (s.drop 128).length _ _ _ (by rw [List.length_drop]; omega) (Nat.le_refl _)]
end Go.Proofs.Ytegbekeopgponaa
