/- Layer 12 (blob): bytes got, as the document says. -/
import Derived.Test.YtdnbddhjdokbfaaG32
import Derived.Test.YtdnbddhjdokbfaaG33
import Derived.LoopN
namespace Go.Proofs.Ytdnbddhjdokbfaa
open Go.RowKit Go.Shelf
set_option linter.unusedVariables false
set_option linter.unusedSimpArgs false

theorem getCode_zero {d : DK} {l : List (Int × Int)} {size : Int} (h : getCode d l size = 0) : FitX l d.stand.length size ∧ ¬ d.down = true := by
  unfold getCode at h
  by_cases hf : FitX l d.stand.length size
  · rw [if_pos hf] at h
    by_cases hd : d.down = true
    · rw [if_pos hd] at h; omega
    · exact ⟨hf, hd⟩
  · rw [if_neg hf] at h; omega
theorem getSays_of {d : DK} {l : List (Int × Int)} {size : Int} {C : Int} {w w' : World} (hC : getCode d l size = C) (h0 : ¬ C = 0) (k : Kept [] w w') : GetSays d l size w (.returned (.tuple #[.string ⟨#[]⟩, .int .i64 C])) w' := by
  have e : getX d l size = [] := by unfold getX; rw [if_neg (by rw [hC]; exact h0)]
  unfold GetSays
  rw [e, hC]
  exact ⟨rfl, k⟩
set_option maxRecDepth 100000 in
set_option maxHeartbeats 1000000 in
theorem qget {Inv : DK → World → Prop} {r lim : Nat} (O : QBOps Inv r lim) (d : DK) (v : Value) (l : List (Int × Int)) (size : Int) (lo hi : Nat) (w : World) (hI : Inv d w) (h : RunsIn w v l lo hi) (hl : l.length ≤ 1000000) (hwf : ∀ a ∈ l, WfRun a)
    (hsz : (Lit.int .i64 size).wf = true) :
    Calls Try.prog 53 #[.pointer (some ⟨r, 0, none⟩), v, .int .i64 size] w (GetSays d l size w) := by
  obtain ⟨n1, n2⟩ := O.ops.len hI
  have HF : ∀ W, Kept [] w W → Calls Try.prog 11 #[v, .int .i64 d.stand.length, .int .i64 size] W (FitSays l d.stand.length size W) := fun W k => qFit v l _ _ lo hi W (h.kept0 k) hl hwf (wf_few (by omega)) hsz
  have HL : ∀ W, Kept [] w W → Calls Try.prog 9 #[v] W fun e w' => ∃ u, e = .returned u ∧ w'.ownsRow W.heap.size 3 1 u (secsE l).length (intsV (secsE l)) ∧ Kept [] W w' := fun W k => qList v l lo hi W (h.kept0 k) hl hwf
  have HI : ∀ W, Kept [] w W → Inv d W := fun W k => O.ops.keep hI k
  have HC : ∀ W, Kept [] w W → ∃ p c, W.cell? ⟨r, 0, none⟩ = some (.slice p d.stand.length c) := fun W k => O.stands (HI W k)
  have HD : ∀ W, Kept [] w W → W.cell? ⟨r, 4, none⟩ = some (.bool d.down) := fun W k => O.ops.down (HI W k)
  have HR : ∀ W, Kept [] w W → ∀ i : Nat, Calls Try.prog 76 #[.pointer (some ⟨r, 0, none⟩), .int .i64 ((i : Nat) : Int)] W fun e w' => e = .returned (.tuple #[.string (bs (rVal d i)), .int .i64 (atOf d i)]) ∧ W = w' := fun W k i => O.ops.readC _ (HI W k)
  have hfit := O.ops.fit hI
  clear h hwf hsz hI HI
  have k0 := Kept.refl [] w
  obtain ⟨ps, cs, c0⟩ := HC w k0
  obtain ⟨N, hN⟩ : ∃ N : Nat, d.stand.length = N := ⟨_, rfl⟩
  rw [hN] at c0 HF n1 n2
  by_cases hG : getCode d l size = 0
  · obtain ⟨hX, hd⟩ := getCode_zero hG
    have hGX : getX d l size = (getL d (secsL l)).take size.toNat := by unfold getX; rw [if_pos hG]
    have hsecs := hX.secs
    have hsE : secsE l = secsL l := secsE_fit hX
    have hal : (secsL l).length ≤ 8192 := by rw [← hsE]; exact secsE_le l
    have hnn : 0 ≤ size := hX.1
    have hat0 : ∀ x ∈ secsL l, atOf d (x : Int) = 0 := fun x hx => by
      have := (hX.lt hx).1
      unfold atOf
      rw [if_neg hd, if_neg (by omega)]
    unfold GetSays
    obtain ⟨sz, rfl⟩ := Int.eq_ofNat_of_zero_le hnn
    rw [Int.toNat_natCast] at hGX
    rw [hG, hGX]
    have hgl : (getL d (secsL l)).length = 128 * (secsL l).length := getL_len hfit (fun y hy => by obtain ⟨_, h1, h2⟩ := atOf_zero (hat0 y hy); omega)
    have hle : sz ≤ (getL d (secsL l)).length := by
      rw [hgl]
      have := hsecs
      unfold need at this
      split at this <;> omega
    have hle2 : (getL d (secsL l)).length ≤ 1048576 := by rw [hgl]; omega
    have hXN := hX
    rw [hN] at hXN
    rw [hsE] at HL
    have hrd : ∀ W, Kept [] w W → ∀ k (hk : k < (secsL l).length), Calls Try.prog 76 #[.pointer (some ⟨r, 0, none⟩), .int .i64 (((secsL l)[k] : Nat) : Int)] W fun e w' => e = .returned (.tuple #[.string (bs (seen d (secsL l)[k])), .int .i64 0]) ∧ W = w' := fun W q k hk => by
      have h1 := HR W q (secsL l)[k]
      have h2 := hat0 _ (List.getElem_mem hk)
      rw [h2, show rVal d (((secsL l)[k] : Nat) : Int) = seen d (secsL l)[k] by unfold rVal; rw [if_pos h2]; rfl] at h1
      exact h1
    have HRD := Lib.hid hrd
    have HXX := Lib.hid hXN
    rw [show d.down = false by simpa using hd] at HD
    have hslen : ∀ k (hk : k < (secsL l).length), (seen d (secsL l)[k]).length = 128 := fun k hk => seen_len hfit (by obtain ⟨_, h1, h2⟩ := atOf_zero (hat0 _ (List.getElem_mem hk)); omega)
    have HSL := Lib.hid hslen
    have hstep := fun k (hk : k < (secsL l).length) => getL_take d (secsL l) k hk
    have HST := Lib.hid hstep
    have hg0 : ∀ k, k ≤ (secsL l).length → (getL d ((secsL l).take k)).length = 128 * k := fun k hk => by
      rw [getL_len hfit (fun y hy => by obtain ⟨_, h1, h2⟩ := atOf_zero (hat0 y (List.mem_of_mem_take hy)); omega), List.length_take, Nat.min_eq_left hk]
    have HG0 := Lib.hid hg0
    clear hrd hX hXN hd hsE hGX hsecs HC HR hat0 hslen hstep hG hgl hfit hN hg0 hnn
    generalize hALq : secsL l = al at *
    go_enter Try.func53, Try.ntmps53
    go_wp2_with fail
    refine (HF _ k0).mono ?_; rintro e w1 ⟨q, rfl, hq, k1⟩
    obtain rfl : q = true := hq.2 HXX.out
    have c4 := HD _ k1
    clear hq HF HD
    go_wp2_with fail
    refine (HL _ k1).mono ?_; rintro e w2 ⟨u, rfl, hrow, k2⟩
    have k12 := k1.trans k2
    have HRW := Lib.hid hrow
    have hs1 := k1.size
    clear HL hrow c4 c0
    obtain ⟨pu, cu, rfl⟩ := own_shape HRW.out
    go_wp2_with fail
    go_loopw [8, 10] (fun t i wx => ∃ k : Nat, i = .int .i64 k ∧ t = .string (bs (getL d (al.take k))) ∧ k ≤ al.length ∧ Kept [] w2 wx) (fun _ i _ => al.length - (intOf i).toNat)
    case atStart => exact ⟨0, rfl, by rfl, Nat.zero_le _, Kept.refl _ _⟩
    case round =>
      obtain ⟨k, rfl, rfl, hk, hK⟩ := hrel
      by_cases hlt : k < al.length
      · obtain ⟨g, c, e, cg, hg, _, hc1, hc2⟩ := row_at (ownsRow_kept HRW.out hK (by simp)) hlt
        injection e with e1 e2 e3
        subst e1; subst e3
        have hr := HRD.out wr (k12.trans hK) k hlt
        have h1 := HSL.out k hlt
        have h2 := HG0.out k hk
        have h3 := HST.out k hlt
        have z1 : (bs (seen d al[k])).size = 128 := by rw [bs_size, h1]
        have z2 : (bs (getL d (al.take k))).size = 128 * k := by rw [bs_size, h2]
        have hap : bs (getL d (al.take k)) ++ bs (seen d al[k]) = bs (getL d (al.take (k + 1))) := by rw [bs_append, h3]
        have z3 : (bs (getL d (al.take k)) ++ bs (seen d al[k])).size = 128 * k + 128 := by rw [hap, bs_size, HG0.out (k + 1) hlt]; omega
        have i1 : (k : Int) < al.length := by omega
        have i2 : (al.length : Int) ≤ 8192 := by omega
        have HAP := Lib.hid hap
        have HR := Lib.hid hr
        have HLT := Lib.hid hlt
        clear hr h1 h2 h3 hap
        generalize bs (getL d (al.take k)) = A at *
        generalize bs (seen d al[k]) = B at *
        generalize al[k] = x at *
        go_wp2_with fail
        refine HR.out.mono ?_; rintro e w5 ⟨rfl, rfl⟩
        go_wp2_with fail
        go_roundw
        case rel => exact ⟨k + 1, congrArg (Value.int .i64) (by omega), congrArg Value.string HAP.out, HLT.out, hK⟩
        case measure => (have := HLT.out; simp [intOf]; omega)
      · obtain rfl : k = al.length := by omega
        rw [List.take_length]
        have hz : (bs (getL d al)).size = (getL d al).length := bs_size _
        have hex : (bs (getL d al)).extract 0 sz = bs ((getL d al).take sz) := by rw [bs_extract]; simp
        have HEX := Lib.hid hex
        have h1 : (sz : Int) ≤ (getL d al).length := by omega
        clear hex
        generalize bs (getL d al) = A at *
        go_wp2_with fail
        go_ret2
        exact ⟨by rw [← HEX.out]; rfl, k12.trans hK⟩
  · by_cases hX : FitX l N size
    · have hd : d.down = true := by
        by_cases hd : d.down = true
        · exact hd
        · exfalso; apply hG; unfold getCode; rw [hN, if_pos hX, if_neg hd]
      have hc : getCode d l size = 90 := by unfold getCode; rw [hN, if_pos hX, if_pos hd]
      have HE : Hid (∀ W, Kept [] w W → GetSays d l size w (.returned (.tuple #[.string ⟨#[]⟩, .int .i64 90])) W) := Lib.hid (fun W k => getSays_of hc (by decide) k)
      have HXX := Lib.hid hX
      rw [hd] at HD
      clear hX hd hG hc HC HR HL hfit
      go_enter Try.func53, Try.ntmps53
      go_wp2_with fail
      refine (HF _ k0).mono ?_; rintro e w1 ⟨q, rfl, hq, k1⟩
      obtain rfl : q = true := hq.2 HXX.out
      have c4 := HD _ k1
      clear hq HF HD
      go_wp2_with fail
      go_ret2
      exact HE.out _ k1
    · have hc : getCode d l size = 1 := by unfold getCode; rw [hN, if_neg hX]
      have HE : Hid (∀ W, Kept [] w W → GetSays d l size w (.returned (.tuple #[.string ⟨#[]⟩, .int .i64 1])) W) := Lib.hid (fun W k => getSays_of hc (by decide) k)
      have HXX := Lib.hid hX
      clear hX hG hc HC HR HL hfit HD
      go_enter Try.func53, Try.ntmps53
      go_wp2_with fail
      refine (HF _ k0).mono ?_; rintro e w1 ⟨q, rfl, hq, k1⟩
      obtain rfl : q = false := by
        cases q
        · rfl
        · exact absurd (hq.1 rfl) HXX.out
      clear hq HF
      go_wp2_with fail
      go_ret2
      exact HE.out _ k1
end Go.Proofs.Ytdnbddhjdokbfaa

/- Layer 12 (blob): bytes copied, as the program does it. -/
namespace Go.Proofs.Ytdnbddhjdokbfaa
open Go.RowKit Go.Shelf
set_option linter.unusedVariables false
set_option linter.unusedSimpArgs false

theorem canon_le {f : Nat → Bool} : (canon f).length ≤ 8192 := by have := (canon_pl f).len0; omega
theorem canon_wf (f : Nat → Bool) : ∀ x ∈ canon f, WfRun x := pl_wf (Int.le_refl _) (canon_pl f)
theorem getX_len {d : DK} (hf : Fit d) (l : List (Int × Int)) (size : Int) (hC : getCode d l size = 0) : ((getX d l size).length : Int) = size := by
  obtain ⟨hX, hd⟩ := getCode_zero hC
  have hlt : ∀ a ∈ secsL l, a < d.stand.length := fun a ha => by have := (hX.lt ha).1; omega
  unfold getX
  rw [if_pos hC, List.length_take, getL_len hf hlt]
  have := hX.secs
  have h0 := hX.1
  unfold need at this
  split at this <;> omega
theorem fitX_size {l : List (Int × Int)} {n size : Int} (h : FitX l n size) : size ≤ 1048576 := by
  have h1 := h.secs
  have h2 := secsE_fit h
  have h3 := secsE_le l
  rw [h2] at h3
  unfold need at h1
  split at h1 <;> omega
def CopySays (Inv : DK → World → Prop) (lim : Nat) (d : DK) (l m : List (Int × Int)) (size : Int) (w : World) (e : Ending) (w' : World) : Prop := e = .returned (.int .i64 (copyX d l m size).2) ∧ Inv (copyX d l m size).1 w' ∧ AsideW lim w w'
theorem copySays_of {Inv : DK → World → Prop} {lim : Nat} {d d' : DK} {l m : List (Int × Int)} {size : Int} {C : Int} {w w' : World} (h : copyX d l m size = (d', C)) (hI : Inv d' w') (hA : AsideW lim w w') : CopySays Inv lim d l m size w (.returned (.int .i64 C)) w' := by
  unfold CopySays; rw [h]; exact ⟨rfl, hI, hA⟩
set_option maxRecDepth 100000 in
set_option maxHeartbeats 2000000 in
theorem bcopy {Inv : DK → World → Prop} {b lim : Nat} (O : BOps Inv b lim) (d : DK) (va : Value) (la : List (Int × Int)) (loa hia : Nat) (vb : Value) (lb : List (Int × Int)) (lob hib : Nat) (size : Int) (w : World) (hI : Inv d w) (hlim : lim ≤ w.heap.size)
    (ha : RunsIn w va la loa hia) (hb : RunsIn w vb lb lob hib) (hla : la.length ≤ 1000000) (hlb : lb.length ≤ 1000000) (hwa : ∀ a ∈ la, WfRun a) (hwb : ∀ a ∈ lb, WfRun a) (hsz : (Lit.int .i64 size).wf = true) (ho : d.ops ≤ 90000) (hw : d.waits.length ≤ 1800) :
    Calls Try.prog 16 #[.pointer (some ⟨b, 0, none⟩), va, vb, .int .i64 size] w (CopySays Inv lim d la lb size w) := by
  have HA : ∀ W, Kept [] w W → Calls Try.prog 37 #[.pointer (some ⟨b, 0, none⟩), va, .int .i64 size] W fun e w' => e = .returned (.int .i64 (getCode d la size)) ∧ Kept [] W w' := fun W k => bcheck O.ops d va la size loa hia W (O.ops.keep hI k) (ha.kept0 k) hla hwa hsz
  have HB : ∀ W, Kept [] w W → Calls Try.prog 37 #[.pointer (some ⟨b, 0, none⟩), vb, .int .i64 size] W fun e w' => e = .returned (.int .i64 (getCode d lb size)) ∧ Kept [] W w' := fun W k => bcheck O.ops d vb lb size lob hib W (O.ops.keep hI k) (hb.kept0 k) hlb hwb hsz
  have HC : ∀ W, Kept [] w W → Calls Try.prog 40 #[va, vb] W (GivesR (commonL la lb) W) := fun W k => xcommon va la loa hia vb lb lob hib W (ha.kept0 k) (hb.kept0 k) hla hlb hwa hwb
  have HG : ∀ W, Kept [] w W → Calls Try.prog 14 #[.pointer (some ⟨b, 0, none⟩), va, .int .i64 size] W (GetSays d la size W) := fun W k => bget O.ops d va la size loa hia W (O.ops.keep hI k) (ha.kept0 k) hla hwa hsz
  have HP : ∀ W, Kept [] w W → ∀ s : List UInt8, s.length ≤ 1048576 → Calls Try.prog 15 #[.pointer (some ⟨b, 0, none⟩), vb, .string (bs s)] W (PutSays Inv lim d lb s W) := fun W k s hs => bput O d vb lb s lob hib W (O.ops.keep hI k) (Nat.le_trans hlim k.size) (hb.kept0 k) hlb hwb hs ho hw
  have HI : Hid (∀ W, Kept [] w W → Inv d W ∧ AsideW lim w W) := Lib.hid (fun W k => ⟨O.ops.keep hI k, k.asideW lim⟩)
  have hfit := O.ops.fit hI
  obtain ⟨pa, ca, rfl⟩ := ha.shape
  obtain ⟨pb, cb, rfl⟩ := hb.shape
  obtain ⟨va, hva⟩ : ∃ v, v = Value.slice pa la.length ca := ⟨_, rfl⟩
  obtain ⟨vb, hvb⟩ : ∃ v, v = Value.slice pb lb.length cb := ⟨_, rfl⟩
  clear ha hb hwa hwb hsz hI ho hw hlim
  have o0 := Own.new w #[.slice pa la.length ca, .slice pb lb.length cb] 22
  have k0 := (Kept.refl [] w).alloc (.cells #[.slice pa la.length ca, .slice pb lb.length cb] 22)
  obtain ⟨c0, c1⟩ := o0.c2
  by_cases hX : FitX la d.stand.length size
  · by_cases hY : FitX lb d.stand.length size
    · have hAB : getCode d la size = getCode d lb size := by rw [getCode_yes hX, getCode_yes hY]
      obtain ⟨c, hc⟩ : ∃ c, getCode d la size = c := ⟨_, rfl⟩
      have hcv : c = 0 ∨ c = 90 := by rw [← hc, getCode_yes hX]; by_cases hd : d.down = true <;> simp [hd]
      have e4 : (c == 4) = false := by rcases hcv with h | h <;> subst h <;> rfl
      have e1 : (c == 1) = false := by rcases hcv with h | h <;> subst h <;> rfl
      have n4 : ¬ c = 4 := by rcases hcv with h | h <;> omega
      have n1 : ¬ c = 1 := by rcases hcv with h | h <;> omega
      rw [hc] at HA hAB
      rw [← hAB] at HB
      obtain ⟨cl, hcl⟩ : ∃ cl, (commonL la lb).length = cl := ⟨_, rfl⟩
      have hcl2 : cl ≤ 8192 := by rw [← hcl]; exact canon_le
      unfold GivesR at HC
      by_cases h0 : cl = 0
      · have hcn : countL (commonL la lb) = 0 := common_none.1 (by omega)
        subst h0
        by_cases hz : c = 0
        · subst hz
          have hgl := getX_len hfit la size hc
          have hr : copyX d la lb size = putX d lb (getX d la size) := by unfold copyX; rw [if_pos ⟨hX, hY, hcn⟩, if_pos hc]
          have hle : (getX d la size).length ≤ 1048576 := by have := fitX_size hX; omega
          unfold GetSays at HG
          rw [hc] at HG
          have HR := Lib.hid hr
          have HP2 := fun W (k : Kept [] w W) => HP W k (getX d la size) hle
          clear hr hX hY hc hcn hfit hgl hle HP hAB hcv
          generalize getX d la size = S at *
          go_enter Try.func16, Try.ntmps16
          go_wp2_with fail
          refine wp_loop_rounds 3 ?_
          rw [rounds_succ]
          go_wp2_with fail
          refine (HA _ k0).mono ?_; rintro e w1 ⟨rfl, k1⟩
          have c0 := (k1.cell (a := ⟨w.heap.size, 0, none⟩) (by simp) (by simp)).trans c0
          have c1 := (k1.cell (a := ⟨w.heap.size, 1, none⟩) (by simp) (by simp)).trans c1
          go_wp2_with fail
          rw [rounds_succ]
          go_wp2_with fail
          refine (HB _ (k0.trans k1)).mono ?_; rintro e w2 ⟨rfl, k2⟩
          have k02 := (k0.trans k1).trans k2
          go_wp2_with fail
          rw [rounds_succ]
          go_wp2_with fail
          refine (HC _ k02).mono ?_; rintro e w3 ⟨v3, rfl, r3, k3⟩
          have k03 := k02.trans k3
          rw [hcl] at r3
          obtain ⟨p3, c3, rfl⟩ := own_shape r3
          go_wp2_with fail
          refine (HG _ k03).mono ?_; rintro e w4 ⟨rfl, k4⟩
          have k04 := k03.trans k4
          go_wp2_with fail
          refine (HP2 _ k04).mono ?_; rintro e w5 ⟨rfl, hI5, hA5⟩
          go_wp2_with fail
          go_ret
          unfold CopySays
          rw [HR.out]
          exact ⟨rfl, hI5, (k04.asideW lim).trans hA5⟩
        · obtain rfl : c = 90 := by omega
          have hr : copyX d la lb size = (d, 90) := by unfold copyX; rw [if_pos ⟨hX, hY, hcn⟩, if_neg (by rw [hc]; decide), hc]
          have HR := Lib.hid hr
          have HG2 : ∀ W, Kept [] w W → Calls Try.prog 14 #[.pointer (some ⟨b, 0, none⟩), .slice pa la.length ca, .int .i64 size] W fun e w' => e = .returned (.tuple #[.string ⟨#[]⟩, .int .i64 90]) ∧ Kept [] W w' := fun W k => (HG W k).mono (fun e w' h => by
            obtain ⟨h1, h2⟩ := h
            refine ⟨?_, h2⟩
            rw [h1, hc]
            have : getX d la size = [] := by unfold getX; rw [if_neg (by rw [hc]; decide)]
            rw [this]; rfl)
          clear hr hX hY hc hcn hfit HP hAB hcv HG
          go_enter Try.func16, Try.ntmps16
          go_wp2_with fail
          refine wp_loop_rounds 3 ?_
          rw [rounds_succ]
          go_wp2_with fail
          refine (HA _ k0).mono ?_; rintro e w1 ⟨rfl, k1⟩
          have c0 := (k1.cell (a := ⟨w.heap.size, 0, none⟩) (by simp) (by simp)).trans c0
          have c1 := (k1.cell (a := ⟨w.heap.size, 1, none⟩) (by simp) (by simp)).trans c1
          go_wp2_with fail
          rw [rounds_succ]
          go_wp2_with fail
          refine (HB _ (k0.trans k1)).mono ?_; rintro e w2 ⟨rfl, k2⟩
          have k02 := (k0.trans k1).trans k2
          go_wp2_with fail
          rw [rounds_succ]
          go_wp2_with fail
          refine (HC _ k02).mono ?_; rintro e w3 ⟨v3, rfl, r3, k3⟩
          have k03 := k02.trans k3
          rw [hcl] at r3
          obtain ⟨p3, c3, rfl⟩ := own_shape r3
          go_wp2_with fail
          refine (HG2 _ k03).mono ?_; rintro e w4 ⟨rfl, k4⟩
          have k04 := k03.trans k4
          go_wp2_with fail
          go_ret
          exact copySays_of HR.out (HI.out _ k04).1 (HI.out _ k04).2
      · have hr : copyX d la lb size = (d, 1) := by unfold copyX; rw [if_neg (fun h => h0 (by rw [← hcl]; exact common_none.2 h.2.2))]
        have HR := Lib.hid hr
        have i1 : 0 < (cl : Int) := by omega
        clear hr hX hY hc hfit HP hAB hcv HG
        go_enter Try.func16, Try.ntmps16
        go_wp2_with fail
        refine wp_loop_rounds 3 ?_
        rw [rounds_succ]
        go_wp2_with fail
        refine (HA _ k0).mono ?_; rintro e w1 ⟨rfl, k1⟩
        have c0 := (k1.cell (a := ⟨w.heap.size, 0, none⟩) (by simp) (by simp)).trans c0
        have c1 := (k1.cell (a := ⟨w.heap.size, 1, none⟩) (by simp) (by simp)).trans c1
        go_wp2_with fail
        rw [rounds_succ]
        go_wp2_with fail
        refine (HB _ (k0.trans k1)).mono ?_; rintro e w2 ⟨rfl, k2⟩
        have k02 := (k0.trans k1).trans k2
        go_wp2_with fail
        rw [rounds_succ]
        go_wp2_with fail
        refine (HC _ k02).mono ?_; rintro e w3 ⟨v3, rfl, r3, k3⟩
        have k03 := k02.trans k3
        rw [hcl] at r3
        obtain ⟨p3, c3, rfl⟩ := own_shape r3
        go_wp2_with fail
        go_ret
        exact copySays_of HR.out (HI.out _ k03).1 (HI.out _ k03).2
    · have h1 : getCode d lb size = 1 := getCode_no hY
      have hr : copyX d la lb size = (d, 1) := by unfold copyX; rw [if_neg (fun h => hY h.2.1)]
      have HR := Lib.hid hr
      rw [h1] at HB
      obtain ⟨c, hc⟩ : ∃ c, getCode d la size = c := ⟨_, rfl⟩
      have hcv : c = 0 ∨ c = 90 := by rw [← hc, getCode_yes hX]; by_cases hd : d.down = true <;> simp [hd]
      have e4 : (c == 4) = false := by rcases hcv with h | h <;> subst h <;> rfl
      have e1 : (c == 1) = false := by rcases hcv with h | h <;> subst h <;> rfl
      have n4 : ¬ c = 4 := by rcases hcv with h | h <;> omega
      have n1 : ¬ c = 1 := by rcases hcv with h | h <;> omega
      rw [hc] at HA
      clear hr hX hY h1 HC HG HP hfit hc hcv
      go_enter Try.func16, Try.ntmps16
      go_wp2_with fail
      refine wp_loop_rounds 3 ?_
      rw [rounds_succ]
      go_wp2_with fail
      refine (HA _ k0).mono ?_; rintro e w1 ⟨rfl, k1⟩
      have c0 := (k1.cell (a := ⟨w.heap.size, 0, none⟩) (by simp) (by simp)).trans c0
      have c1 := (k1.cell (a := ⟨w.heap.size, 1, none⟩) (by simp) (by simp)).trans c1
      go_wp2_with fail
      rw [rounds_succ]
      go_wp2_with fail
      refine (HB _ (k0.trans k1)).mono ?_; rintro e w2 ⟨rfl, k2⟩
      have k02 := (k0.trans k1).trans k2
      go_wp2_with fail
      go_ret
      exact copySays_of HR.out (HI.out _ k02).1 (HI.out _ k02).2
  · have h1 : getCode d la size = 1 := getCode_no hX
    have hr : copyX d la lb size = (d, 1) := by unfold copyX; rw [if_neg (fun h => hX h.1)]
    have HR := Lib.hid hr
    rw [h1] at HA
    clear hr hX h1 HB HC HG HP hfit
    go_enter Try.func16, Try.ntmps16
    go_wp2_with fail
    refine wp_loop_rounds 3 ?_
    rw [rounds_succ]
    go_wp2_with fail
    refine (HA _ k0).mono ?_; rintro e w1 ⟨rfl, k1⟩
    go_wp2_with fail
    go_ret
    exact copySays_of HR.out (HI.out _ (k0.trans k1)).1 (HI.out _ (k0.trans k1)).2
end Go.Proofs.Ytdnbddhjdokbfaa
