/- Layer 12 (blob): BlobBack's walk. -/
import Derived.Test.YtdnbddhjdokbfaaG25
import Derived.Test.YtdnbddhjdokbfaaG26
import Derived.Test.YtdnbddhjdokbfaaG38
import Derived.IntWalk
namespace Go.Proofs.Ytdnbddhjdokbfaa
open Go.ChangeShapes Go.WideShapes Go.RowKit Go.Shelf
set_option linter.unusedVariables false
set_option linter.unusedSimpArgs false

/-- the image that bytes make. -/
def imgL (l : List UInt8) : List UInt8 := l.take 5120 ++ (List.replicate 5120 0).drop (l.take 5120).length
theorem imgL_len (l : List UInt8) : (imgL l).length = 5120 := by
  unfold imgL
  rw [List.length_append, List.length_drop, List.length_replicate, List.length_take]
  omega
/-- runs that came in stand in every world that keeps the one they came in with. -/
theorem RunsIn.back {w w2 w3 W : World} {v : Value} {l : List (Int × Int)} {lo : Nat} (h : RunsIn w3 v l lo w.heap.size) (k : Kept [] w w2) (k3 : Kept [] w2 w3) (q : Kept [] w2 W) : RunsIn W v l lo w.heap.size := by
  rcases h with h | ⟨b, off, c, h1, h2, h3, h4, h5, h6, h7, h8⟩
  · exact Or.inl h
  · have hb2 : b < w2.heap.size := by have := k.size; omega
    refine Or.inr ⟨b, off, c, h1, fun i hi' => ?_, h3, h4, Nat.le_trans k.size q.size, h6, h7, h8⟩
    obtain ⟨x, y⟩ := h2 i hi'
    rw [k3.cell (by show b < _; omega) (by simp)] at x y
    exact ⟨(q.cell (by show b < _; omega) (by simp)).trans x, (q.cell (by show b < _; omega) (by simp)).trans y⟩
theorem fitX_no {d : DK} {l : List (Int × Int)} {s : List UInt8} (h : ¬ FitX l d.stand.length s.length) : putX d l s = (d, 1) := by unfold putX; rw [if_neg h]
section
variable {H : Type} {enc : TypeId × Value → H} {w : World} {base : Nat} {held : Bool} {r : Reach} {b0 : Nat}
set_option maxRecDepth 100000 in
theorem open_bytes_in {v : Value} {d : DataW H} {p : List MemPlace} (hv : Value.okWide Try.prog w r b0 38 v) (h : DataW.Trod enc Try.prog w base (fun _ => true) held 38 v d p) : ∃ l, BytesIn w v l 0 w.heap.size := by
  obtain ⟨a0, len, cap, rfl⟩ := okWide_slice Try.underlying38 hv
  obtain ⟨fuel, hf⟩ := h
  exact bytes_of_trod (by simpa [Value.cells] using hf)
end
set_option maxRecDepth 100000 in
set_option maxHeartbeats 8000000 in
theorem blobBackLaw (vb : Value) (bl : List UInt8) (v : Value) (l0 : List (Int × Int)) (size : Int) (lost : Bool) (w : World) (hb : BytesIn w vb bl 0 w.heap.size) (h0 : RunsIn w v l0 0 w.heap.size) (hwf0 : ∀ a ∈ l0, WfRun a) (hs : (Lit.int .u16 size).wf = true) :
    Calls Try.prog 5 #[vb, v, .int .u16 size, .bool lost] w fun e w' => e = .returned (.bool true) ∧ Below w.heap.size w w' := by
  obtain ⟨m, rfl⟩ : ∃ m : Nat, size = (m : Int) := by
    simp only [Lit.wf, Bool.and_eq_true, decide_eq_true_eq] at hs
    have h1 : (0 : Int) ≤ size := hs.1
    exact ⟨size.toNat, by omega⟩
  have hm : m ≤ 65535 := by
    simp only [Lit.wf, Bool.and_eq_true, decide_eq_true_eq] at hs
    have h2 : (m : Int) ≤ 65535 := hs.2
    omega
  obtain ⟨k, hk⟩ : ∃ k : Nat, m % 3000 = k := ⟨_, rfl⟩
  have hk3 : k < 3000 := by omega
  have hmk2 : (m : Int) % 3000 = (k : Int) := by omega
  have hmk5 : (wrap64 (m : Int)).tmod 3000 = (k : Int) := by
    rw [IntWalk.wrap64_in _ ⟨by omega, by omega⟩, Int.tmod_eq_emod_of_nonneg (by omega)]
    exact hmk2
  have hf := fun W (q : Kept [] w W) => bfew v l0 0 w.heap.size W (h0.kept0 q)
  have hwf : ∀ a ∈ l0.take 20, WfRun a := fun a ha => hwf0 a (List.mem_of_mem_take ha)
  have hl : (l0.take 20).length ≤ 1000000 := by have := List.length_take_le 20 l0; omega
  have HF := Lib.hid hf
  clear hf hs hwf0 h0
  generalize l0.take 20 = l at *
  have o0 := Own.new w (bcells (List.replicate 5120 0)) 5
  have k0 : Kept [] w (w.alloc (.cells (bcells (List.replicate 5120 0)) 5)) := (Kept.refl _ _).alloc _
  obtain ⟨w2, mm, hcr, o2, k2⟩ := copy_bytes w _ w.heap.size 5120 5120 (List.replicate 5120 0) bl vb 3 0 w.heap.size (by simp) (Nat.le_refl _) o0 k0 (hb.kept0 k0)
  have o2 : Own w2 w.heap.size (bcells (imgL bl)) 5 := o2
  have hil := imgL_len bl
  have hzi : (bs (imgL bl)).size = 5120 := by rw [bs_size, hil]
  have hmk : (Instr.makeSlice 38 (.int .i64 5120) (.int .i64 5120)).run Try.prog w = .ok (.slice (some ⟨w.heap.size, 0, none⟩) 5120 5120) (w.alloc (.cells (bcells (List.replicate 5120 0)) 5)) := make_bytes 5120 (by decide) w
  have hconv : (convert 38 9 (.slice (some ⟨w.heap.size, 0, none⟩) 5120 5120)).run Try.prog w2 = .ok (.string (bs (imgL bl))) w2 := by
    have := Lib.run_convert_whole (P := Try.prog) w2 38 5 9 Try.underlying38 Try.underlying5 Try.underlying9 _ _ _ (own_bytes o2) 5120
    rwa [hzi] at this
  have hcv : ∀ i : Nat, i < 40 → ∀ W, Own W w.heap.size (bcells (imgL bl)) 5 → ∀ c, (convert 38 9 (.slice (some ⟨w.heap.size, i * 128, none⟩) 128 c)).run Try.prog W = .ok (.string (bs (cutS (imgL bl) i))) W := fun i hi W o c => by
    have hsz : (bs (((imgL bl).drop (i * 128)).take 128)).size = 128 := by rw [bs_size, List.length_take, List.length_drop, hil]; omega
    have := Lib.run_convert_whole (P := Try.prog) W 38 5 9 Try.underlying38 Try.underlying5 Try.underlying9 _ _ _ (own_bytes_at o (i * 128) 128 (by rw [hil]; omega)) c
    rw [hsz] at this
    rw [this]
    unfold cutS
    rw [Nat.mul_comm i 128]
  have hload := aLoad (imgL bl) 40 w2 hil (by decide) (by decide)
  have hget := fun i hi => load_get (imgL bl) 40 i hi
  obtain ⟨d, hd⟩ : ∃ d, newD (loadTo (imgL bl) 40 40) = d := ⟨_, rfl⟩
  have hCalm : Calm d 40 0 := by rw [← hd]; exact ⟨loadTo_len _ _ _ (Nat.le_refl _), Nat.le_refl _, Nat.le_refl _, rfl, rfl⟩
  have hW : d.waits = [] := by rw [← hd]; rfl
  have hst : ∀ i, i < 40 → d.stand.getD i [] = cutS (imgL bl) i := by rw [← hd]; exact hget
  rw [hd] at hload
  clear hget hd
  have HCV := Lib.hid hcv
  have HST := Lib.hid hst
  have HL := Lib.hid hload
  have HWF := Lib.hid (And.intro hl hwf)
  have O2 := Lib.hid o2
  have K2 := Lib.hid k2
  have HC := Lib.hid hCalm
  have HW := Lib.hid hW
  have HK3 := Lib.hid hk3
  have HCONV := Lib.hid hconv
  clear hcv hst hload hwf hl o2 k2 hCalm hW hm hk hil hzi o0 k0 hconv
  obtain ⟨pb, cb, rfl⟩ := hb.shape
  clear hb
  generalize imgL bl = IL at *
  generalize List.replicate 5120 (0 : UInt8) = ZL at *
  go_enter Try.func5, Try.ntmps5
  have hconv := HCONV.out
  go_wp2_with (at_builtin; refine Lib.wpList_copy_run _ rfl _ _ 38 38 rfl _ _ rfl rfl hcr ?_)

  clear hmk hcr
  go_wp2_with fail
  refine HL.out.mono ?_; rintro e w3 ⟨b, sb, mb, lo, rfl, hA⟩
  have K3 := Lib.hid (K2.out.trans hA.kept)
  have HA := Lib.hid hA
  clear hconv hA HCONV
  go_wp2_with fail
  refine (HF.out w3 K3.out).mono ?_; rintro e w' ⟨⟨v1, rfl, hR⟩, rfl⟩
  have hq := qFit v1 l 40 k 0 w.heap.size w3 hR HWF.out.1 HWF.out.2 (by decide) (wf_few (by have := HK3.out; omega))
  have hwv : (Lit.int .i64 (k : Int)).wf = true := wf_few (by have := HK3.out; omega)
  obtain ⟨l1, l2, l3⟩ := HA.out.lts
  have hO := aloneB w2 b sb mb lo w3.heap.size l1 l2 l3
  have HR := Lib.hid hR
  have HO := Lib.hid hO
  have HRW : Hid (∀ W, Kept [] w2 W → RunsIn W v1 l 0 w.heap.size) := Lib.hid (fun W q => RunsIn.back hR K2.out HA.out.kept q)
  have HWV := Lib.hid hwv
  clear HF hR hO l1 l2 l3 hwv
  go_wp2_with fail
  refine hq.mono ?_; rintro e w4 ⟨q, rfl, hqX, k4⟩
  clear hmk5
  have HA4 := Lib.hid (HA.out.keep0 k4)
  have HR4 := Lib.hid (HR.out.kept0 k4)
  have hs4 : w3.heap.size ≤ w4.heap.size := k4.size
  have ht := fun W => vtext k W (by have := HK3.out; omega)
  have htl : (textV k).length = k := tabL_len _ _
  have haw := awakeV
  clear hq HA
  have hput := fun W (q : Kept [] w4 W) => bput HO.out d v1 l (textV k) 0 w.heap.size W (HA4.out.keep0 q) (Nat.le_trans hs4 q.size) (HR4.out.kept0 q) HWF.out.1 HWF.out.2 (by rw [htl]; have := HK3.out; omega) (by have := HC.out.ops; omega) (by rw [HW.out]; decide)
  unfold PutSays at hput
  cases q with
  | false =>
    have hno : ¬ FitX l d.stand.length (textV k).length := fun h => by
      rw [htl, HC.out.len] at h
      have := hqX.2 h
      cases this
    rw [fitX_no hno] at hput
    have HP := Lib.hid hput
    clear hput hqX hno htl
    generalize textV k = T at *
    go_wp2_with fail
    refine (ht _).mono ?_; rintro e w5 ⟨rfl, k5⟩
    go_wp2_with fail
    refine (HP.out _ k5).mono ?_; rintro e w6 ⟨rfl, hA6, _⟩
    go_wp2_with fail
    refine (haw _).mono ?_; rintro e w7 ⟨rfl, k7⟩
    have hk7 := ((K2.out.trans hA6.kept).trans k7).below
    go_wp2_with fail
    go_ret
    exact ⟨rfl, hk7⟩
  | true =>
    have hX : FitX l ((40 : Nat) : Int) (textV k).length := by rw [htl]; exact hqX.1 rfl
    have OKX : ∀ a ∈ l, OkX 0 40 a := hX.2.2.1.1
    obtain ⟨d1, hp1, hp2, hp3, hp4, hp5⟩ := back_plain HA4.out.fit HC.out HW.out hX
    rw [hp1] at hput
    rw [htl] at hp5
    have hfl := fun W (h : Alone w2 W b sb mb lo d1) => h.flush (by omega) (by omega)
    rw [hp2] at hfl
    have hpw := fun W (h : Alone w2 W b sb mb lo (fNext d1)) => h.power (.slice none 0 0) [] 0 0 (Or.inl ⟨rfl, none, 0, rfl⟩) (Or.inr (Nat.zero_le _)) (by
      have h2 := (hp5 _ (Or.inl rfl)).2.1
      rw [h2]; decide)
    have HP := Lib.hid hput
    have HFL := Lib.hid hfl
    have HPW := Lib.hid hpw
    have HP5 := Lib.hid hp5
    clear hput hqX hX hp1 hp2 hp3 hp4 hp5 hfl hpw
    generalize textV k = T at *
    go_wp2_with fail
    refine (ht _).mono ?_; rintro e w5 ⟨rfl, k5⟩
    go_wp2_with fail
    refine (HP.out _ k5).mono ?_; rintro e w6 ⟨rfl, hA6, _⟩
    have HFL6 := Lib.hid (HFL.out _ hA6)
    clear hA6 HP
    go_wp2_with fail
    refine HFL6.out.mono ?_; rintro e w7 ⟨rfl, hA7, _⟩
    cases lost with
    | false =>
      have hA8 := hA7
      obtain ⟨w8, rfl⟩ : ∃ w8 : World, w8 = w7 := ⟨_, rfl⟩
      have HA8 := Lib.hid hA8
      have hp5 := HP5.out _ (Or.inl rfl)
      generalize fNext d1 = d2 at *
      obtain ⟨f1, f2, f3, f4, f5, f6⟩ := hp5
      have hR8 : RunsIn w8 v1 l 0 w.heap.size := HRW.out _ hA8.kept
      have hgt := bget (aloneOps w2 b sb mb lo) d2 v1 l (k : Int) 0 w.heap.size w8 HA8.out hR8 HWF.out.1 HWF.out.2 HWV.out
      unfold GetSays at hgt
      rw [f4, f5] at hgt
      have hlen := stand_len HA8.out.fit f3
      have hcut := fun i hi => stand_cut HA8.out.fit f3 i hi
      have HF6 := Lib.hid f6
      have HCUT := Lib.hid hcut
      have HG := Lib.hid hgt
      clear f1 f2 f3 f4 f5 f6 hcut hgt hA7 hA8
      go_wp2_with fail
      refine HG.out.mono ?_; rintro e w9 ⟨rfl, k9⟩
      have hA9 := HA8.out.keep0 k9
      have him := hA9.image
      have HIM := Lib.hid him
      clear him hA9
      go_wp2_with fail
      refine HIM.out.mono ?_; rintro e w10 ⟨rfl, hA10, k10⟩
      have o10 := hA10.kept.own O2.out (by simp)
      have hR10 := (hR8.kept0 k9).kept0 k10
      have HZ : Hid (∀ W, Kept [] w10 W → ∀ i : Int, Calls Try.prog 22 #[v1, .int .i64 i] W fun e w' => e = .returned (.bool (hasI l i)) ∧ Kept [] W w') := Lib.hid (fun W q i => zhas v1 l i 0 w.heap.size W (hR10.kept0 q) HWF.out.1 HWF.out.2)
      have K10 := Lib.hid (K2.out.trans hA10.kept)
      have O10 := Lib.hid o10
      have hzn : (bs d2.stand.flatten).size = 5120 := by rw [bs_size, hlen]
      have HOK : Hid (∀ i : Nat, i < 40 → hasI l (i : Int) = false → (bs d2.stand.flatten).extract (i * 128) (i * 128 + 128) = bs (cutS IL i)) := Lib.hid (fun i hi hh => by
        rw [HCUT.out i hi, HF6.out i hi (fun hm => by
          have h1 := secsL_has (show ∀ a ∈ l, OkX 0 40 a from OKX) hm
          unfold hasI at hh
          try simp only [Int.toNat_natCast] at hh
          rw [h1, decide_eq_true (by omega), decide_eq_true (by omega)] at hh
          cases hh), HST.out i hi])
      clear hR8 hR10 hA10 o10 hlen HIM HG HA8
      generalize d2.stand.flatten = NOW at *
      obtain ⟨pr, cr, rfl⟩ := HR.out.shape
      go_wp2_with fail
      go_loopw [17, 18] (fun i v18 wr => ∃ k : Nat, k ≤ 40 ∧ i = .int .i64 k ∧ Kept [] w10 wr) (fun i _ _ => 40 - (intOf i).toNat)
      case atStart => exact ⟨0, by omega, rfl, Kept.refl _ _⟩
      case round =>
        obtain ⟨i, hi, rfl, hK⟩ := hrel
        by_cases hlt : i < 40
        · have i1 : (i : Int) < 40 := by omega
          have oW := hK.own O10.out (by simp)
          have HLT := Lib.hid hlt
          have HKD := Lib.hid hK.drew
          have hz := HZ.out _ hK.drew (i : Int)
          clear hlt
          cases hh : hasI l (i : Int) with
          | true =>
            rw [hh] at hz
            clear hh
            go_upto_region 21 with fail
            have wz1 : IntKind.i64.wrap ((i : Int) * 128 + 128) = (i : Int) * 128 + 128 := IntWalk.i64_in _ (by have := HLT.out; omega)
            have wz2 : IntKind.i64.wrap ((i : Int) * 128) = (i : Int) * 128 := IntWalk.i64_in _ (by have := HLT.out; omega)
            have wz3 : (0 : Int) ≤ (i : Int) * 128 + 128 := by omega
            have wz4 : (i : Int) * 128 ≤ (i : Int) * 128 + 128 := by omega
            have wz5 : (i : Int) * 128 + 128 ≤ 5120 := by have := HLT.out; omega
            have wz6 : ¬ 5120 = i * 128 := by have := HLT.out; omega
            refine wp_region_held_drew (S := (fun W => Own W w.heap.size (bcells IL) 5)) (by kernel_rfl) (by exact Own.drew oW) (fun hHeld => ?_)
            refine take_at (i := 0) (d := some 86) (v := ?_) rfl rfl (by kernel_rfl) (by kernel_rfl) (by kernel_rfl) (fun _ _ _ h => h) (Or.inl ⟨by rfl, ?_⟩) (by assumption) ?_
            rotate_left
            · (intro w hSw; (try dsimp only at hSw); go_simp; try with_reducible rfl)
            try simp only [Act.put, List.setIfInBounds_toArray, List.set_cons_zero, List.set_cons_succ]
            refine take_at (i := 1) (d := some 87) (v := ?_) rfl rfl (by kernel_rfl) (by kernel_rfl) (by kernel_rfl) (fun _ _ _ h => h) (Or.inl ⟨by rfl, ?_⟩) (by assumption) ?_
            rotate_left
            · (intro w hSw; (try dsimp only at hSw); go_simp; try with_reducible rfl)
            try simp only [Act.put, List.setIfInBounds_toArray, List.set_cons_zero, List.set_cons_succ]
            refine wpAnyH_ready (rs := [2]) (by kernel_rfl) (by simp) ?_
            refine (AllReadyH.cons rfl (fun K hK => ?_) AllReadyH.nil)
            go_simp
            ((with_reducible refine hz.mono ?_)); rintro e w11 ⟨rfl, kz⟩
            have oZ : Own w11 w.heap.size (bcells IL) 5 := kz.own (Own.drew oW) (by simp)
            go_wp2_with fail
            refine hK.out _ _ ?_ (fun hHeld => ?_)
            · exact oZ
            clear hK K
            try simp only [Act.put, List.setIfInBounds_toArray, List.set_cons_zero, List.set_cons_succ]
            refine take_at (i := 3) (d := some 89) (v := ?_) rfl rfl (by kernel_rfl) (by kernel_rfl) (by kernel_rfl) (fun _ _ _ h => h) (Or.inl ⟨by rfl, ?_⟩) (by assumption) ?_
            rotate_left
            · (intro w hSw; (try dsimp only at hSw); go_simp; try with_reducible rfl)
            try simp only [Act.put, List.setIfInBounds_toArray, List.set_cons_zero, List.set_cons_succ]
            refine take_at (i := 4) (d := some 90) (v := ?_) rfl rfl (by kernel_rfl) (by kernel_rfl) (by kernel_rfl) (fun _ _ _ h => h) (Or.inl ⟨by rfl, ?_⟩) (by assumption) ?_
            rotate_left
            · (intro w hSw; (try dsimp only at hSw); go_simp; try with_reducible rfl)
            try simp only [Act.put, List.setIfInBounds_toArray, List.set_cons_zero, List.set_cons_succ]
            refine take_at (i := 5) (d := some 91) (v := undef) rfl rfl (by kernel_rfl) (by kernel_rfl) (by kernel_rfl) (fun _ _ _ h => h) (Or.inr ⟨by rfl, rfl⟩) (by assumption) ?_
            try simp only [Act.put, List.setIfInBounds_toArray, List.set_cons_zero, List.set_cons_succ]
            refine take_at (i := 6) (d := some 92) (v := undef) rfl rfl (by kernel_rfl) (by kernel_rfl) (by kernel_rfl) (fun _ _ _ h => h) (Or.inr ⟨by rfl, rfl⟩) (by assumption) ?_
            try simp only [Act.put, List.setIfInBounds_toArray, List.set_cons_zero, List.set_cons_succ]
            refine take_at (i := 7) (d := some 93) (v := undef) rfl rfl (by kernel_rfl) (by kernel_rfl) (by kernel_rfl) (fun _ _ _ h => h) (Or.inr ⟨by rfl, rfl⟩) (by assumption) ?_
            try simp only [Act.put, List.setIfInBounds_toArray, List.set_cons_zero, List.set_cons_succ]
            refine take_at (i := 8) (d := some 94) (v := undef) rfl rfl (by kernel_rfl) (by kernel_rfl) (by kernel_rfl) (fun _ _ _ h => h) (Or.inr ⟨by rfl, rfl⟩) (by assumption) ?_
            try simp only [Act.put, List.setIfInBounds_toArray, List.set_cons_zero, List.set_cons_succ]
            refine take_at (i := 9) (d := some 95) (v := undef) rfl rfl (by kernel_rfl) (by kernel_rfl) (by kernel_rfl) (fun _ _ _ h => h) (Or.inr ⟨by rfl, rfl⟩) (by assumption) ?_
            try simp only [Act.put, List.setIfInBounds_toArray, List.set_cons_zero, List.set_cons_succ]
            refine take_at (i := 10) (d := some 96) (v := undef) rfl rfl (by kernel_rfl) (by kernel_rfl) (by kernel_rfl) (fun _ _ _ h => h) (Or.inr ⟨by rfl, rfl⟩) (by assumption) ?_
            try simp only [Act.put, List.setIfInBounds_toArray, List.set_cons_zero, List.set_cons_succ]
            refine take_at (i := 11) (d := some 97) (v := undef) rfl rfl (by kernel_rfl) (by kernel_rfl) (by kernel_rfl) (fun _ _ _ h => h) (Or.inr ⟨by rfl, rfl⟩) (by assumption) ?_
            try simp only [Act.put, List.setIfInBounds_toArray, List.set_cons_zero, List.set_cons_succ]
            refine take_at (i := 12) (d := some 98) (v := undef) rfl rfl (by kernel_rfl) (by kernel_rfl) (by kernel_rfl) (fun _ _ _ h => h) (Or.inr ⟨by rfl, rfl⟩) (by assumption) ?_
            try simp only [Act.put, List.setIfInBounds_toArray, List.set_cons_zero, List.set_cons_succ]
            refine take_at (i := 13) (d := some 99) (v := undef) rfl rfl (by kernel_rfl) (by kernel_rfl) (by kernel_rfl) (fun _ _ _ h => h) (Or.inr ⟨by rfl, rfl⟩) (by assumption) ?_
            try simp only [Act.put, List.setIfInBounds_toArray, List.set_cons_zero, List.set_cons_succ]
            refine take_at (i := 14) (d := some 100) (v := undef) rfl rfl (by kernel_rfl) (by kernel_rfl) (by kernel_rfl) (fun _ _ _ h => h) (Or.inr ⟨by rfl, rfl⟩) (by assumption) ?_
            try simp only [Act.put, List.setIfInBounds_toArray, List.set_cons_zero, List.set_cons_succ]
            refine take_at (i := 15) (d := some 101) (v := undef) rfl rfl (by kernel_rfl) (by kernel_rfl) (by kernel_rfl) (fun _ _ _ h => h) (Or.inr ⟨by rfl, rfl⟩) (by assumption) ?_
            try simp only [Act.put, List.setIfInBounds_toArray, List.set_cons_zero, List.set_cons_succ]
            refine take_at (i := 16) (d := some 102) (v := undef) rfl rfl (by kernel_rfl) (by kernel_rfl) (by kernel_rfl) (fun _ _ _ h => h) (Or.inr ⟨by rfl, rfl⟩) (by assumption) ?_
            try simp only [Act.put, List.setIfInBounds_toArray, List.set_cons_zero, List.set_cons_succ]
            refine take_at (i := 17) (d := some 103) (v := undef) rfl rfl (by kernel_rfl) (by kernel_rfl) (by kernel_rfl) (fun _ _ _ h => h) (Or.inr ⟨by rfl, rfl⟩) (by assumption) ?_
            try simp only [Act.put, List.setIfInBounds_toArray, List.set_cons_zero, List.set_cons_succ]
            refine take_at (i := 18) (d := some 104) (v := undef) rfl rfl (by kernel_rfl) (by kernel_rfl) (by kernel_rfl) (fun _ _ _ h => h) (Or.inr ⟨by rfl, rfl⟩) (by assumption) ?_
            try simp only [Act.put, List.setIfInBounds_toArray, List.set_cons_zero, List.set_cons_succ]
            refine take_at (i := 19) (d := some 105) (v := undef) rfl rfl (by kernel_rfl) (by kernel_rfl) (by kernel_rfl) (fun _ _ _ h => h) (Or.inr ⟨by rfl, rfl⟩) (by assumption) ?_
            try simp only [Act.put, List.setIfInBounds_toArray, List.set_cons_zero, List.set_cons_succ]
            refine take_at (i := 20) (d := some 106) (v := undef) rfl rfl (by kernel_rfl) (by kernel_rfl) (by kernel_rfl) (fun _ _ _ h => h) (Or.inr ⟨by rfl, rfl⟩) (by assumption) ?_
            try simp only [Act.put, List.setIfInBounds_toArray, List.set_cons_zero, List.set_cons_succ]
            refine take_at (i := 21) (d := some 107) (v := undef) rfl rfl (by kernel_rfl) (by kernel_rfl) (by kernel_rfl) (fun _ _ _ h => h) (Or.inr ⟨by rfl, rfl⟩) (by assumption) ?_
            try simp only [Act.put, List.setIfInBounds_toArray, List.set_cons_zero, List.set_cons_succ]
            refine take_at (i := 22) (d := some 108) (v := undef) rfl rfl (by kernel_rfl) (by kernel_rfl) (by kernel_rfl) (fun _ _ _ h => h) (Or.inr ⟨by rfl, rfl⟩) (by assumption) ?_
            try simp only [Act.put, List.setIfInBounds_toArray, List.set_cons_zero, List.set_cons_succ]
            refine take_at (i := 23) (d := some 109) (v := undef) rfl rfl (by kernel_rfl) (by kernel_rfl) (by kernel_rfl) (fun _ _ _ h => h) (Or.inr ⟨by rfl, rfl⟩) (by assumption) ?_
            try simp only [Act.put, List.setIfInBounds_toArray, List.set_cons_zero, List.set_cons_succ]
            refine take_at (i := 24) (d := some 110) (v := ?_) rfl rfl (by kernel_rfl) (by kernel_rfl) (by kernel_rfl) (fun _ _ _ h => h) (Or.inl ⟨by rfl, ?_⟩) (by assumption) ?_
            rotate_left
            · (intro w hSw; (try dsimp only at hSw); go_simp; try with_reducible rfl)
            try simp only [Act.put, List.setIfInBounds_toArray, List.set_cons_zero, List.set_cons_succ]
            refine wpAnyH_done (by kernel_rfl) ?_ _
            go_wp2_with fail
            go_roundw
            case rel => exact ⟨i + 1, HLT.out, by go_num, HKD.out.trans kz⟩
            case measure => (have h := HLT.out; simp [intOf]; omega)
          | false =>
            rw [hh] at hz
            have hx := HOK.out i HLT.out hh
            have hcv := HCV.out i HLT.out
            have t1 : ((i : Int) * 128).toNat = i * 128 := by omega
            have t2 : ((i : Int) * 128 + 128).toNat = i * 128 + 128 := by omega
            have b1 : (i : Int) * 128 + 128 ≤ 5120 := by omega
            have b2 : 0 ≤ (i : Int) * 128 := by omega
            have HCVI := Lib.hid hcv
            clear hh hcv
            generalize bs (cutS IL i) = SEC at *
            go_upto_region 21 with fail
            have wz1 : IntKind.i64.wrap ((i : Int) * 128 + 128) = (i : Int) * 128 + 128 := IntWalk.i64_in _ (by have := HLT.out; omega)
            have wz2 : IntKind.i64.wrap ((i : Int) * 128) = (i : Int) * 128 := IntWalk.i64_in _ (by have := HLT.out; omega)
            have wz3 : (0 : Int) ≤ (i : Int) * 128 + 128 := by omega
            have wz4 : (i : Int) * 128 ≤ (i : Int) * 128 + 128 := by omega
            have wz5 : (i : Int) * 128 + 128 ≤ 5120 := by have := HLT.out; omega
            have wz6 : ¬ 5120 = i * 128 := by have := HLT.out; omega
            refine wp_region_held_drew (S := (fun W => Own W w.heap.size (bcells IL) 5)) (by kernel_rfl) (by exact Own.drew oW) (fun hHeld => ?_)
            refine take_at (i := 0) (d := some 86) (v := ?_) rfl rfl (by kernel_rfl) (by kernel_rfl) (by kernel_rfl) (fun _ _ _ h => h) (Or.inl ⟨by rfl, ?_⟩) (by assumption) ?_
            rotate_left
            · (intro w hSw; (try dsimp only at hSw); go_simp; try with_reducible rfl)
            try simp only [Act.put, List.setIfInBounds_toArray, List.set_cons_zero, List.set_cons_succ]
            refine take_at (i := 1) (d := some 87) (v := ?_) rfl rfl (by kernel_rfl) (by kernel_rfl) (by kernel_rfl) (fun _ _ _ h => h) (Or.inl ⟨by rfl, ?_⟩) (by assumption) ?_
            rotate_left
            · (intro w hSw; (try dsimp only at hSw); go_simp; try with_reducible rfl)
            try simp only [Act.put, List.setIfInBounds_toArray, List.set_cons_zero, List.set_cons_succ]
            refine wpAnyH_ready (rs := [2]) (by kernel_rfl) (by simp) ?_
            refine (AllReadyH.cons rfl (fun K hK => ?_) AllReadyH.nil)
            go_simp
            ((with_reducible refine hz.mono ?_)); rintro e w11 ⟨rfl, kz⟩
            have oZ : Own w11 w.heap.size (bcells IL) 5 := kz.own (Own.drew oW) (by simp)
            go_wp2_with fail
            refine hK.out _ _ ?_ (fun hHeld => ?_)
            · exact oZ
            clear hK K
            try simp only [Act.put, List.setIfInBounds_toArray, List.set_cons_zero, List.set_cons_succ]
            refine take_at (i := 3) (d := some 89) (v := ?_) rfl rfl (by kernel_rfl) (by kernel_rfl) (by kernel_rfl) (fun _ _ _ h => h) (Or.inl ⟨by rfl, ?_⟩) (by assumption) ?_
            rotate_left
            · (intro w hSw; (try dsimp only at hSw); go_simp; try with_reducible rfl)
            try simp only [Act.put, List.setIfInBounds_toArray, List.set_cons_zero, List.set_cons_succ]
            refine take_at (i := 4) (d := some 90) (v := ?_) rfl rfl (by kernel_rfl) (by kernel_rfl) (by kernel_rfl) (fun _ _ _ h => h) (Or.inl ⟨by rfl, ?_⟩) (by assumption) ?_
            rotate_left
            · (intro w hSw; (try dsimp only at hSw); go_simp; try with_reducible rfl)
            try simp only [Act.put, List.setIfInBounds_toArray, List.set_cons_zero, List.set_cons_succ]
            refine take_at (i := 5) (d := some 91) (v := ?_) rfl rfl (by kernel_rfl) (by kernel_rfl) (by kernel_rfl) (fun _ _ _ h => h) (Or.inl ⟨by rfl, ?_⟩) (by assumption) ?_
            rotate_left
            · (intro w hSw; (try dsimp only at hSw); go_simp; try with_reducible rfl)
            try simp only [Act.put, List.setIfInBounds_toArray, List.set_cons_zero, List.set_cons_succ]
            refine take_at (i := 6) (d := some 92) (v := ?_) rfl rfl (by kernel_rfl) (by kernel_rfl) (by kernel_rfl) (fun _ _ _ h => h) (Or.inl ⟨by rfl, ?_⟩) (by assumption) ?_
            rotate_left
            · (intro w hSw; (try dsimp only at hSw); go_simp; try with_reducible rfl)
            try simp only [Act.put, List.setIfInBounds_toArray, List.set_cons_zero, List.set_cons_succ]
            refine take_at (i := 7) (d := some 93) (v := ?_) rfl rfl (by kernel_rfl) (by kernel_rfl) (by kernel_rfl) (fun _ _ _ h => h) (Or.inl ⟨by rfl, ?_⟩) (by assumption) ?_
            rotate_left
            · (intro w hSw; (try dsimp only at hSw); go_simp; try with_reducible rfl)
            try simp only [Act.put, List.setIfInBounds_toArray, List.set_cons_zero, List.set_cons_succ]
            refine take_at (i := 8) (d := some 94) (v := ?_) rfl rfl (by kernel_rfl) (by kernel_rfl) (by kernel_rfl) (fun _ _ _ h => h) (Or.inl ⟨by rfl, ?_⟩) (by assumption) ?_
            rotate_left
            · (intro w hSw; (try dsimp only at hSw); go_simp; try with_reducible rfl)
            try simp only [Act.put, List.setIfInBounds_toArray, List.set_cons_zero, List.set_cons_succ]
            refine take_at (i := 9) (d := some 95) (v := ?_) rfl rfl (by kernel_rfl) (by kernel_rfl) (by kernel_rfl) (fun _ _ _ h => h) (Or.inl ⟨by rfl, ?_⟩) (by assumption) ?_
            rotate_left
            · (intro w hSw; (try dsimp only at hSw); go_simp; try with_reducible rfl)
            try simp only [Act.put, List.setIfInBounds_toArray, List.set_cons_zero, List.set_cons_succ]
            refine take_at (i := 10) (d := some 96) (v := ?_) rfl rfl (by kernel_rfl) (by kernel_rfl) (by kernel_rfl) (fun _ _ _ h => h) (Or.inl ⟨by rfl, ?_⟩) (by assumption) ?_
            rotate_left
            · (intro w hSw; (try dsimp only at hSw); go_simp; try with_reducible rfl)
            try simp only [Act.put, List.setIfInBounds_toArray, List.set_cons_zero, List.set_cons_succ]
            refine take_at (i := 11) (d := some 97) (v := ?_) rfl rfl (by kernel_rfl) (by kernel_rfl) (by kernel_rfl) (fun _ _ _ h => h) (Or.inl ⟨by rfl, ?_⟩) (by assumption) ?_
            rotate_left
            · (intro w hSw; (try dsimp only at hSw); go_simp; try with_reducible rfl)
            try simp only [Act.put, List.setIfInBounds_toArray, List.set_cons_zero, List.set_cons_succ]
            refine take_at (i := 12) (d := some 98) (v := ?_) rfl rfl (by kernel_rfl) (by kernel_rfl) (by kernel_rfl) (fun _ _ _ h => h) (Or.inl ⟨by rfl, ?_⟩) (by assumption) ?_
            rotate_left
            · (intro w hSw; (try dsimp only at hSw); go_simp; try with_reducible rfl)
            try simp only [Act.put, List.setIfInBounds_toArray, List.set_cons_zero, List.set_cons_succ]
            refine take_at (i := 13) (d := some 99) (v := ?_) rfl rfl (by kernel_rfl) (by kernel_rfl) (by kernel_rfl) (fun _ _ _ h => h) (Or.inl ⟨by rfl, ?_⟩) (by assumption) ?_
            rotate_left
            · (intro w hSw; (try dsimp only at hSw); go_simp; try with_reducible rfl)
            try simp only [Act.put, List.setIfInBounds_toArray, List.set_cons_zero, List.set_cons_succ]
            refine take_at (i := 14) (d := some 100) (v := ?_) rfl rfl (by kernel_rfl) (by kernel_rfl) (by kernel_rfl) (fun _ _ _ h => h) (Or.inl ⟨by rfl, ?_⟩) (by assumption) ?_
            rotate_left
            · (intro w hSw; (try dsimp only at hSw); go_simp; try with_reducible rfl)
            try simp only [Act.put, List.setIfInBounds_toArray, List.set_cons_zero, List.set_cons_succ]
            refine take_at (i := 15) (d := some 101) (v := ?_) rfl rfl (by kernel_rfl) (by kernel_rfl) (by kernel_rfl) (fun _ _ _ h => h) (Or.inl ⟨by rfl, ?_⟩) (by assumption) ?_
            rotate_left
            · (intro w hSw; (try dsimp only at hSw); go_simp; try with_reducible rfl)
            try simp only [Act.put, List.setIfInBounds_toArray, List.set_cons_zero, List.set_cons_succ]
            refine take_at (i := 16) (d := some 102) (v := ?_) rfl rfl (by kernel_rfl) (by kernel_rfl) (by kernel_rfl) (fun _ _ _ h => h) (Or.inl ⟨by rfl, ?_⟩) (by assumption) ?_
            rotate_left
            · (intro w hSw; (try dsimp only at hSw); go_simp; try with_reducible rfl)
            try simp only [Act.put, List.setIfInBounds_toArray, List.set_cons_zero, List.set_cons_succ]
            refine take_at (i := 17) (d := some 103) (v := ?_) rfl rfl (by kernel_rfl) (by kernel_rfl) (by kernel_rfl) (fun _ _ _ h => h) (Or.inl ⟨by rfl, ?_⟩) (by assumption) ?_
            rotate_left
            · (intro w hSw; (try dsimp only at hSw); go_simp; try with_reducible rfl)
            try simp only [Act.put, List.setIfInBounds_toArray, List.set_cons_zero, List.set_cons_succ]
            refine take_at (i := 18) (d := some 104) (v := ?_) rfl rfl (by kernel_rfl) (by kernel_rfl) (by kernel_rfl) (fun _ _ _ h => h) (Or.inl ⟨by rfl, ?_⟩) (by assumption) ?_
            rotate_left
            · (intro w hSw; (try dsimp only at hSw); go_simp; try with_reducible rfl)
            try simp only [Act.put, List.setIfInBounds_toArray, List.set_cons_zero, List.set_cons_succ]
            refine take_at (i := 19) (d := some 105) (v := ?_) rfl rfl (by kernel_rfl) (by kernel_rfl) (by kernel_rfl) (fun _ _ _ h => h) (Or.inl ⟨by rfl, ?_⟩) (by assumption) ?_
            rotate_left
            · (intro w hSw; (try dsimp only at hSw); go_simp; try with_reducible rfl)
            try simp only [Act.put, List.setIfInBounds_toArray, List.set_cons_zero, List.set_cons_succ]
            refine take_at (i := 20) (d := some 106) (v := ?_) rfl rfl (by kernel_rfl) (by kernel_rfl) (by kernel_rfl) (fun _ _ _ h => h) (Or.inl ⟨by rfl, ?_⟩) (by assumption) ?_
            rotate_left
            · (intro w hSw; (try dsimp only at hSw); go_simp; try with_reducible rfl)
            try simp only [Act.put, List.setIfInBounds_toArray, List.set_cons_zero, List.set_cons_succ]
            refine take_at (i := 21) (d := some 107) (v := .string SEC) rfl rfl (by kernel_rfl) (by kernel_rfl) (by kernel_rfl) (fun _ _ _ h => h) (Or.inl ⟨by rfl, ?_⟩) (by assumption) ?_
            · intro W hSw; have hcv := HCVI.out W hSw; go_simp; try with_reducible rfl
            try simp only [Act.put, List.setIfInBounds_toArray, List.set_cons_zero, List.set_cons_succ]
            refine take_at (i := 22) (d := some 108) (v := ?_) rfl rfl (by kernel_rfl) (by kernel_rfl) (by kernel_rfl) (fun _ _ _ h => h) (Or.inl ⟨by rfl, ?_⟩) (by assumption) ?_
            rotate_left
            · (intro w hSw; (try dsimp only at hSw); go_simp; try with_reducible rfl)
            try simp only [Act.put, List.setIfInBounds_toArray, List.set_cons_zero, List.set_cons_succ]
            refine take_at (i := 23) (d := some 109) (v := ?_) rfl rfl (by kernel_rfl) (by kernel_rfl) (by kernel_rfl) (fun _ _ _ h => h) (Or.inl ⟨by rfl, ?_⟩) (by assumption) ?_
            rotate_left
            · (intro w hSw; (try dsimp only at hSw); go_simp; try with_reducible rfl)
            try simp only [Act.put, List.setIfInBounds_toArray, List.set_cons_zero, List.set_cons_succ]
            refine take_at (i := 24) (d := some 110) (v := ?_) rfl rfl (by kernel_rfl) (by kernel_rfl) (by kernel_rfl) (fun _ _ _ h => h) (Or.inl ⟨by rfl, ?_⟩) (by assumption) ?_
            rotate_left
            · (intro w hSw; (try dsimp only at hSw); go_simp; try with_reducible rfl)
            try simp only [Act.put, List.setIfInBounds_toArray, List.set_cons_zero, List.set_cons_succ]
            refine wpAnyH_done (by kernel_rfl) ?_ _
            go_wp2_with fail
            go_roundw
            case rel => exact ⟨i + 1, HLT.out, by go_num, HKD.out.trans kz⟩
            case measure => (have h := HLT.out; simp [intOf]; omega)
        · obtain rfl : i = 40 := by omega
          have hk8 := hK
          have HT := Lib.hid hK
          clear hlt
          go_wp2_with fail
          refine (ht _).mono ?_; rintro e w11 ⟨rfl, k11⟩
          go_wp2_with fail
          refine (haw _).mono ?_; rintro e w12 ⟨rfl, k12⟩
          have hkf := (((K10.out.trans HT.out).trans k11).trans k12).below
          go_wp2_with fail
          go_ret
          exact ⟨rfl, hkf⟩
    | true =>
      have HPW7 := Lib.hid (HPW.out _ hA7)
      go_wp2_with fail
      refine HPW7.out.mono ?_; rintro e w8 ⟨rfl, hA8, _⟩
      have HA8 := Lib.hid hA8
      have hp5 := HP5.out _ (Or.inr rfl)
      generalize powerD (fNext d1) [] = d2 at *
      obtain ⟨f1, f2, f3, f4, f5, f6⟩ := hp5
      have hR8 : RunsIn w8 v1 l 0 w.heap.size := HRW.out _ hA8.kept
      have hgt := bget (aloneOps w2 b sb mb lo) d2 v1 l (k : Int) 0 w.heap.size w8 HA8.out hR8 HWF.out.1 HWF.out.2 HWV.out
      unfold GetSays at hgt
      rw [f4, f5] at hgt
      have hlen := stand_len HA8.out.fit f3
      have hcut := fun i hi => stand_cut HA8.out.fit f3 i hi
      have HF6 := Lib.hid f6
      have HCUT := Lib.hid hcut
      have HG := Lib.hid hgt
      clear f1 f2 f3 f4 f5 f6 hcut hgt hA7 hA8
      go_wp2_with fail
      refine HG.out.mono ?_; rintro e w9 ⟨rfl, k9⟩
      have hA9 := HA8.out.keep0 k9
      have him := hA9.image
      have HIM := Lib.hid him
      clear him hA9
      go_wp2_with fail
      refine HIM.out.mono ?_; rintro e w10 ⟨rfl, hA10, k10⟩
      have o10 := hA10.kept.own O2.out (by simp)
      have hR10 := (hR8.kept0 k9).kept0 k10
      have HZ : Hid (∀ W, Kept [] w10 W → ∀ i : Int, Calls Try.prog 22 #[v1, .int .i64 i] W fun e w' => e = .returned (.bool (hasI l i)) ∧ Kept [] W w') := Lib.hid (fun W q i => zhas v1 l i 0 w.heap.size W (hR10.kept0 q) HWF.out.1 HWF.out.2)
      have K10 := Lib.hid (K2.out.trans hA10.kept)
      have O10 := Lib.hid o10
      have hzn : (bs d2.stand.flatten).size = 5120 := by rw [bs_size, hlen]
      have HOK : Hid (∀ i : Nat, i < 40 → hasI l (i : Int) = false → (bs d2.stand.flatten).extract (i * 128) (i * 128 + 128) = bs (cutS IL i)) := Lib.hid (fun i hi hh => by
        rw [HCUT.out i hi, HF6.out i hi (fun hm => by
          have h1 := secsL_has (show ∀ a ∈ l, OkX 0 40 a from OKX) hm
          unfold hasI at hh
          try simp only [Int.toNat_natCast] at hh
          rw [h1, decide_eq_true (by omega), decide_eq_true (by omega)] at hh
          cases hh), HST.out i hi])
      clear hR8 hR10 hA10 o10 hlen HIM HG HA8
      generalize d2.stand.flatten = NOW at *
      obtain ⟨pr, cr, rfl⟩ := HR.out.shape
      go_wp2_with fail
      go_loopw [17, 18] (fun i v18 wr => ∃ k : Nat, k ≤ 40 ∧ i = .int .i64 k ∧ Kept [] w10 wr) (fun i _ _ => 40 - (intOf i).toNat)
      case atStart => exact ⟨0, by omega, rfl, Kept.refl _ _⟩
      case round =>
        obtain ⟨i, hi, rfl, hK⟩ := hrel
        by_cases hlt : i < 40
        · have i1 : (i : Int) < 40 := by omega
          have oW := hK.own O10.out (by simp)
          have HLT := Lib.hid hlt
          have HKD := Lib.hid hK.drew
          have hz := HZ.out _ hK.drew (i : Int)
          clear hlt
          cases hh : hasI l (i : Int) with
          | true =>
            rw [hh] at hz
            clear hh
            go_upto_region 21 with fail
            have wz1 : IntKind.i64.wrap ((i : Int) * 128 + 128) = (i : Int) * 128 + 128 := IntWalk.i64_in _ (by have := HLT.out; omega)
            have wz2 : IntKind.i64.wrap ((i : Int) * 128) = (i : Int) * 128 := IntWalk.i64_in _ (by have := HLT.out; omega)
            have wz3 : (0 : Int) ≤ (i : Int) * 128 + 128 := by omega
            have wz4 : (i : Int) * 128 ≤ (i : Int) * 128 + 128 := by omega
            have wz5 : (i : Int) * 128 + 128 ≤ 5120 := by have := HLT.out; omega
            have wz6 : ¬ 5120 = i * 128 := by have := HLT.out; omega
            refine wp_region_held_drew (S := (fun W => Own W w.heap.size (bcells IL) 5)) (by kernel_rfl) (by exact Own.drew oW) (fun hHeld => ?_)
            refine take_at (i := 0) (d := some 86) (v := ?_) rfl rfl (by kernel_rfl) (by kernel_rfl) (by kernel_rfl) (fun _ _ _ h => h) (Or.inl ⟨by rfl, ?_⟩) (by assumption) ?_
            rotate_left
            · (intro w hSw; (try dsimp only at hSw); go_simp; try with_reducible rfl)
            try simp only [Act.put, List.setIfInBounds_toArray, List.set_cons_zero, List.set_cons_succ]
            refine take_at (i := 1) (d := some 87) (v := ?_) rfl rfl (by kernel_rfl) (by kernel_rfl) (by kernel_rfl) (fun _ _ _ h => h) (Or.inl ⟨by rfl, ?_⟩) (by assumption) ?_
            rotate_left
            · (intro w hSw; (try dsimp only at hSw); go_simp; try with_reducible rfl)
            try simp only [Act.put, List.setIfInBounds_toArray, List.set_cons_zero, List.set_cons_succ]
            refine wpAnyH_ready (rs := [2]) (by kernel_rfl) (by simp) ?_
            refine (AllReadyH.cons rfl (fun K hK => ?_) AllReadyH.nil)
            go_simp
            ((with_reducible refine hz.mono ?_)); rintro e w11 ⟨rfl, kz⟩
            have oZ : Own w11 w.heap.size (bcells IL) 5 := kz.own (Own.drew oW) (by simp)
            go_wp2_with fail
            refine hK.out _ _ ?_ (fun hHeld => ?_)
            · exact oZ
            clear hK K
            try simp only [Act.put, List.setIfInBounds_toArray, List.set_cons_zero, List.set_cons_succ]
            refine take_at (i := 3) (d := some 89) (v := ?_) rfl rfl (by kernel_rfl) (by kernel_rfl) (by kernel_rfl) (fun _ _ _ h => h) (Or.inl ⟨by rfl, ?_⟩) (by assumption) ?_
            rotate_left
            · (intro w hSw; (try dsimp only at hSw); go_simp; try with_reducible rfl)
            try simp only [Act.put, List.setIfInBounds_toArray, List.set_cons_zero, List.set_cons_succ]
            refine take_at (i := 4) (d := some 90) (v := ?_) rfl rfl (by kernel_rfl) (by kernel_rfl) (by kernel_rfl) (fun _ _ _ h => h) (Or.inl ⟨by rfl, ?_⟩) (by assumption) ?_
            rotate_left
            · (intro w hSw; (try dsimp only at hSw); go_simp; try with_reducible rfl)
            try simp only [Act.put, List.setIfInBounds_toArray, List.set_cons_zero, List.set_cons_succ]
            refine take_at (i := 5) (d := some 91) (v := undef) rfl rfl (by kernel_rfl) (by kernel_rfl) (by kernel_rfl) (fun _ _ _ h => h) (Or.inr ⟨by rfl, rfl⟩) (by assumption) ?_
            try simp only [Act.put, List.setIfInBounds_toArray, List.set_cons_zero, List.set_cons_succ]
            refine take_at (i := 6) (d := some 92) (v := undef) rfl rfl (by kernel_rfl) (by kernel_rfl) (by kernel_rfl) (fun _ _ _ h => h) (Or.inr ⟨by rfl, rfl⟩) (by assumption) ?_
            try simp only [Act.put, List.setIfInBounds_toArray, List.set_cons_zero, List.set_cons_succ]
            refine take_at (i := 7) (d := some 93) (v := undef) rfl rfl (by kernel_rfl) (by kernel_rfl) (by kernel_rfl) (fun _ _ _ h => h) (Or.inr ⟨by rfl, rfl⟩) (by assumption) ?_
            try simp only [Act.put, List.setIfInBounds_toArray, List.set_cons_zero, List.set_cons_succ]
            refine take_at (i := 8) (d := some 94) (v := undef) rfl rfl (by kernel_rfl) (by kernel_rfl) (by kernel_rfl) (fun _ _ _ h => h) (Or.inr ⟨by rfl, rfl⟩) (by assumption) ?_
            try simp only [Act.put, List.setIfInBounds_toArray, List.set_cons_zero, List.set_cons_succ]
            refine take_at (i := 9) (d := some 95) (v := undef) rfl rfl (by kernel_rfl) (by kernel_rfl) (by kernel_rfl) (fun _ _ _ h => h) (Or.inr ⟨by rfl, rfl⟩) (by assumption) ?_
            try simp only [Act.put, List.setIfInBounds_toArray, List.set_cons_zero, List.set_cons_succ]
            refine take_at (i := 10) (d := some 96) (v := undef) rfl rfl (by kernel_rfl) (by kernel_rfl) (by kernel_rfl) (fun _ _ _ h => h) (Or.inr ⟨by rfl, rfl⟩) (by assumption) ?_
            try simp only [Act.put, List.setIfInBounds_toArray, List.set_cons_zero, List.set_cons_succ]
            refine take_at (i := 11) (d := some 97) (v := undef) rfl rfl (by kernel_rfl) (by kernel_rfl) (by kernel_rfl) (fun _ _ _ h => h) (Or.inr ⟨by rfl, rfl⟩) (by assumption) ?_
            try simp only [Act.put, List.setIfInBounds_toArray, List.set_cons_zero, List.set_cons_succ]
            refine take_at (i := 12) (d := some 98) (v := undef) rfl rfl (by kernel_rfl) (by kernel_rfl) (by kernel_rfl) (fun _ _ _ h => h) (Or.inr ⟨by rfl, rfl⟩) (by assumption) ?_
            try simp only [Act.put, List.setIfInBounds_toArray, List.set_cons_zero, List.set_cons_succ]
            refine take_at (i := 13) (d := some 99) (v := undef) rfl rfl (by kernel_rfl) (by kernel_rfl) (by kernel_rfl) (fun _ _ _ h => h) (Or.inr ⟨by rfl, rfl⟩) (by assumption) ?_
            try simp only [Act.put, List.setIfInBounds_toArray, List.set_cons_zero, List.set_cons_succ]
            refine take_at (i := 14) (d := some 100) (v := undef) rfl rfl (by kernel_rfl) (by kernel_rfl) (by kernel_rfl) (fun _ _ _ h => h) (Or.inr ⟨by rfl, rfl⟩) (by assumption) ?_
            try simp only [Act.put, List.setIfInBounds_toArray, List.set_cons_zero, List.set_cons_succ]
            refine take_at (i := 15) (d := some 101) (v := undef) rfl rfl (by kernel_rfl) (by kernel_rfl) (by kernel_rfl) (fun _ _ _ h => h) (Or.inr ⟨by rfl, rfl⟩) (by assumption) ?_
            try simp only [Act.put, List.setIfInBounds_toArray, List.set_cons_zero, List.set_cons_succ]
            refine take_at (i := 16) (d := some 102) (v := undef) rfl rfl (by kernel_rfl) (by kernel_rfl) (by kernel_rfl) (fun _ _ _ h => h) (Or.inr ⟨by rfl, rfl⟩) (by assumption) ?_
            try simp only [Act.put, List.setIfInBounds_toArray, List.set_cons_zero, List.set_cons_succ]
            refine take_at (i := 17) (d := some 103) (v := undef) rfl rfl (by kernel_rfl) (by kernel_rfl) (by kernel_rfl) (fun _ _ _ h => h) (Or.inr ⟨by rfl, rfl⟩) (by assumption) ?_
            try simp only [Act.put, List.setIfInBounds_toArray, List.set_cons_zero, List.set_cons_succ]
            refine take_at (i := 18) (d := some 104) (v := undef) rfl rfl (by kernel_rfl) (by kernel_rfl) (by kernel_rfl) (fun _ _ _ h => h) (Or.inr ⟨by rfl, rfl⟩) (by assumption) ?_
            try simp only [Act.put, List.setIfInBounds_toArray, List.set_cons_zero, List.set_cons_succ]
            refine take_at (i := 19) (d := some 105) (v := undef) rfl rfl (by kernel_rfl) (by kernel_rfl) (by kernel_rfl) (fun _ _ _ h => h) (Or.inr ⟨by rfl, rfl⟩) (by assumption) ?_
            try simp only [Act.put, List.setIfInBounds_toArray, List.set_cons_zero, List.set_cons_succ]
            refine take_at (i := 20) (d := some 106) (v := undef) rfl rfl (by kernel_rfl) (by kernel_rfl) (by kernel_rfl) (fun _ _ _ h => h) (Or.inr ⟨by rfl, rfl⟩) (by assumption) ?_
            try simp only [Act.put, List.setIfInBounds_toArray, List.set_cons_zero, List.set_cons_succ]
            refine take_at (i := 21) (d := some 107) (v := undef) rfl rfl (by kernel_rfl) (by kernel_rfl) (by kernel_rfl) (fun _ _ _ h => h) (Or.inr ⟨by rfl, rfl⟩) (by assumption) ?_
            try simp only [Act.put, List.setIfInBounds_toArray, List.set_cons_zero, List.set_cons_succ]
            refine take_at (i := 22) (d := some 108) (v := undef) rfl rfl (by kernel_rfl) (by kernel_rfl) (by kernel_rfl) (fun _ _ _ h => h) (Or.inr ⟨by rfl, rfl⟩) (by assumption) ?_
            try simp only [Act.put, List.setIfInBounds_toArray, List.set_cons_zero, List.set_cons_succ]
            refine take_at (i := 23) (d := some 109) (v := undef) rfl rfl (by kernel_rfl) (by kernel_rfl) (by kernel_rfl) (fun _ _ _ h => h) (Or.inr ⟨by rfl, rfl⟩) (by assumption) ?_
            try simp only [Act.put, List.setIfInBounds_toArray, List.set_cons_zero, List.set_cons_succ]
            refine take_at (i := 24) (d := some 110) (v := ?_) rfl rfl (by kernel_rfl) (by kernel_rfl) (by kernel_rfl) (fun _ _ _ h => h) (Or.inl ⟨by rfl, ?_⟩) (by assumption) ?_
            rotate_left
            · (intro w hSw; (try dsimp only at hSw); go_simp; try with_reducible rfl)
            try simp only [Act.put, List.setIfInBounds_toArray, List.set_cons_zero, List.set_cons_succ]
            refine wpAnyH_done (by kernel_rfl) ?_ _
            go_wp2_with fail
            go_roundw
            case rel => exact ⟨i + 1, HLT.out, by go_num, HKD.out.trans kz⟩
            case measure => (have h := HLT.out; simp [intOf]; omega)
          | false =>
            rw [hh] at hz
            have hx := HOK.out i HLT.out hh
            have hcv := HCV.out i HLT.out
            have t1 : ((i : Int) * 128).toNat = i * 128 := by omega
            have t2 : ((i : Int) * 128 + 128).toNat = i * 128 + 128 := by omega
            have b1 : (i : Int) * 128 + 128 ≤ 5120 := by omega
            have b2 : 0 ≤ (i : Int) * 128 := by omega
            have HCVI := Lib.hid hcv
            clear hh hcv
            generalize bs (cutS IL i) = SEC at *
            go_upto_region 21 with fail
            have wz1 : IntKind.i64.wrap ((i : Int) * 128 + 128) = (i : Int) * 128 + 128 := IntWalk.i64_in _ (by have := HLT.out; omega)
            have wz2 : IntKind.i64.wrap ((i : Int) * 128) = (i : Int) * 128 := IntWalk.i64_in _ (by have := HLT.out; omega)
            have wz3 : (0 : Int) ≤ (i : Int) * 128 + 128 := by omega
            have wz4 : (i : Int) * 128 ≤ (i : Int) * 128 + 128 := by omega
            have wz5 : (i : Int) * 128 + 128 ≤ 5120 := by have := HLT.out; omega
            have wz6 : ¬ 5120 = i * 128 := by have := HLT.out; omega
            refine wp_region_held_drew (S := (fun W => Own W w.heap.size (bcells IL) 5)) (by kernel_rfl) (by exact Own.drew oW) (fun hHeld => ?_)
            refine take_at (i := 0) (d := some 86) (v := ?_) rfl rfl (by kernel_rfl) (by kernel_rfl) (by kernel_rfl) (fun _ _ _ h => h) (Or.inl ⟨by rfl, ?_⟩) (by assumption) ?_
            rotate_left
            · (intro w hSw; (try dsimp only at hSw); go_simp; try with_reducible rfl)
            try simp only [Act.put, List.setIfInBounds_toArray, List.set_cons_zero, List.set_cons_succ]
            refine take_at (i := 1) (d := some 87) (v := ?_) rfl rfl (by kernel_rfl) (by kernel_rfl) (by kernel_rfl) (fun _ _ _ h => h) (Or.inl ⟨by rfl, ?_⟩) (by assumption) ?_
            rotate_left
            · (intro w hSw; (try dsimp only at hSw); go_simp; try with_reducible rfl)
            try simp only [Act.put, List.setIfInBounds_toArray, List.set_cons_zero, List.set_cons_succ]
            refine wpAnyH_ready (rs := [2]) (by kernel_rfl) (by simp) ?_
            refine (AllReadyH.cons rfl (fun K hK => ?_) AllReadyH.nil)
            go_simp
            ((with_reducible refine hz.mono ?_)); rintro e w11 ⟨rfl, kz⟩
            have oZ : Own w11 w.heap.size (bcells IL) 5 := kz.own (Own.drew oW) (by simp)
            go_wp2_with fail
            refine hK.out _ _ ?_ (fun hHeld => ?_)
            · exact oZ
            clear hK K
            try simp only [Act.put, List.setIfInBounds_toArray, List.set_cons_zero, List.set_cons_succ]
            refine take_at (i := 3) (d := some 89) (v := ?_) rfl rfl (by kernel_rfl) (by kernel_rfl) (by kernel_rfl) (fun _ _ _ h => h) (Or.inl ⟨by rfl, ?_⟩) (by assumption) ?_
            rotate_left
            · (intro w hSw; (try dsimp only at hSw); go_simp; try with_reducible rfl)
            try simp only [Act.put, List.setIfInBounds_toArray, List.set_cons_zero, List.set_cons_succ]
            refine take_at (i := 4) (d := some 90) (v := ?_) rfl rfl (by kernel_rfl) (by kernel_rfl) (by kernel_rfl) (fun _ _ _ h => h) (Or.inl ⟨by rfl, ?_⟩) (by assumption) ?_
            rotate_left
            · (intro w hSw; (try dsimp only at hSw); go_simp; try with_reducible rfl)
            try simp only [Act.put, List.setIfInBounds_toArray, List.set_cons_zero, List.set_cons_succ]
            refine take_at (i := 5) (d := some 91) (v := ?_) rfl rfl (by kernel_rfl) (by kernel_rfl) (by kernel_rfl) (fun _ _ _ h => h) (Or.inl ⟨by rfl, ?_⟩) (by assumption) ?_
            rotate_left
            · (intro w hSw; (try dsimp only at hSw); go_simp; try with_reducible rfl)
            try simp only [Act.put, List.setIfInBounds_toArray, List.set_cons_zero, List.set_cons_succ]
            refine take_at (i := 6) (d := some 92) (v := ?_) rfl rfl (by kernel_rfl) (by kernel_rfl) (by kernel_rfl) (fun _ _ _ h => h) (Or.inl ⟨by rfl, ?_⟩) (by assumption) ?_
            rotate_left
            · (intro w hSw; (try dsimp only at hSw); go_simp; try with_reducible rfl)
            try simp only [Act.put, List.setIfInBounds_toArray, List.set_cons_zero, List.set_cons_succ]
            refine take_at (i := 7) (d := some 93) (v := ?_) rfl rfl (by kernel_rfl) (by kernel_rfl) (by kernel_rfl) (fun _ _ _ h => h) (Or.inl ⟨by rfl, ?_⟩) (by assumption) ?_
            rotate_left
            · (intro w hSw; (try dsimp only at hSw); go_simp; try with_reducible rfl)
            try simp only [Act.put, List.setIfInBounds_toArray, List.set_cons_zero, List.set_cons_succ]
            refine take_at (i := 8) (d := some 94) (v := ?_) rfl rfl (by kernel_rfl) (by kernel_rfl) (by kernel_rfl) (fun _ _ _ h => h) (Or.inl ⟨by rfl, ?_⟩) (by assumption) ?_
            rotate_left
            · (intro w hSw; (try dsimp only at hSw); go_simp; try with_reducible rfl)
            try simp only [Act.put, List.setIfInBounds_toArray, List.set_cons_zero, List.set_cons_succ]
            refine take_at (i := 9) (d := some 95) (v := ?_) rfl rfl (by kernel_rfl) (by kernel_rfl) (by kernel_rfl) (fun _ _ _ h => h) (Or.inl ⟨by rfl, ?_⟩) (by assumption) ?_
            rotate_left
            · (intro w hSw; (try dsimp only at hSw); go_simp; try with_reducible rfl)
            try simp only [Act.put, List.setIfInBounds_toArray, List.set_cons_zero, List.set_cons_succ]
            refine take_at (i := 10) (d := some 96) (v := ?_) rfl rfl (by kernel_rfl) (by kernel_rfl) (by kernel_rfl) (fun _ _ _ h => h) (Or.inl ⟨by rfl, ?_⟩) (by assumption) ?_
            rotate_left
            · (intro w hSw; (try dsimp only at hSw); go_simp; try with_reducible rfl)
            try simp only [Act.put, List.setIfInBounds_toArray, List.set_cons_zero, List.set_cons_succ]
            refine take_at (i := 11) (d := some 97) (v := ?_) rfl rfl (by kernel_rfl) (by kernel_rfl) (by kernel_rfl) (fun _ _ _ h => h) (Or.inl ⟨by rfl, ?_⟩) (by assumption) ?_
            rotate_left
            · (intro w hSw; (try dsimp only at hSw); go_simp; try with_reducible rfl)
            try simp only [Act.put, List.setIfInBounds_toArray, List.set_cons_zero, List.set_cons_succ]
            refine take_at (i := 12) (d := some 98) (v := ?_) rfl rfl (by kernel_rfl) (by kernel_rfl) (by kernel_rfl) (fun _ _ _ h => h) (Or.inl ⟨by rfl, ?_⟩) (by assumption) ?_
            rotate_left
            · (intro w hSw; (try dsimp only at hSw); go_simp; try with_reducible rfl)
            try simp only [Act.put, List.setIfInBounds_toArray, List.set_cons_zero, List.set_cons_succ]
            refine take_at (i := 13) (d := some 99) (v := ?_) rfl rfl (by kernel_rfl) (by kernel_rfl) (by kernel_rfl) (fun _ _ _ h => h) (Or.inl ⟨by rfl, ?_⟩) (by assumption) ?_
            rotate_left
            · (intro w hSw; (try dsimp only at hSw); go_simp; try with_reducible rfl)
            try simp only [Act.put, List.setIfInBounds_toArray, List.set_cons_zero, List.set_cons_succ]
            refine take_at (i := 14) (d := some 100) (v := ?_) rfl rfl (by kernel_rfl) (by kernel_rfl) (by kernel_rfl) (fun _ _ _ h => h) (Or.inl ⟨by rfl, ?_⟩) (by assumption) ?_
            rotate_left
            · (intro w hSw; (try dsimp only at hSw); go_simp; try with_reducible rfl)
            try simp only [Act.put, List.setIfInBounds_toArray, List.set_cons_zero, List.set_cons_succ]
            refine take_at (i := 15) (d := some 101) (v := ?_) rfl rfl (by kernel_rfl) (by kernel_rfl) (by kernel_rfl) (fun _ _ _ h => h) (Or.inl ⟨by rfl, ?_⟩) (by assumption) ?_
            rotate_left
            · (intro w hSw; (try dsimp only at hSw); go_simp; try with_reducible rfl)
            try simp only [Act.put, List.setIfInBounds_toArray, List.set_cons_zero, List.set_cons_succ]
            refine take_at (i := 16) (d := some 102) (v := ?_) rfl rfl (by kernel_rfl) (by kernel_rfl) (by kernel_rfl) (fun _ _ _ h => h) (Or.inl ⟨by rfl, ?_⟩) (by assumption) ?_
            rotate_left
            · (intro w hSw; (try dsimp only at hSw); go_simp; try with_reducible rfl)
            try simp only [Act.put, List.setIfInBounds_toArray, List.set_cons_zero, List.set_cons_succ]
            refine take_at (i := 17) (d := some 103) (v := ?_) rfl rfl (by kernel_rfl) (by kernel_rfl) (by kernel_rfl) (fun _ _ _ h => h) (Or.inl ⟨by rfl, ?_⟩) (by assumption) ?_
            rotate_left
            · (intro w hSw; (try dsimp only at hSw); go_simp; try with_reducible rfl)
            try simp only [Act.put, List.setIfInBounds_toArray, List.set_cons_zero, List.set_cons_succ]
            refine take_at (i := 18) (d := some 104) (v := ?_) rfl rfl (by kernel_rfl) (by kernel_rfl) (by kernel_rfl) (fun _ _ _ h => h) (Or.inl ⟨by rfl, ?_⟩) (by assumption) ?_
            rotate_left
            · (intro w hSw; (try dsimp only at hSw); go_simp; try with_reducible rfl)
            try simp only [Act.put, List.setIfInBounds_toArray, List.set_cons_zero, List.set_cons_succ]
            refine take_at (i := 19) (d := some 105) (v := ?_) rfl rfl (by kernel_rfl) (by kernel_rfl) (by kernel_rfl) (fun _ _ _ h => h) (Or.inl ⟨by rfl, ?_⟩) (by assumption) ?_
            rotate_left
            · (intro w hSw; (try dsimp only at hSw); go_simp; try with_reducible rfl)
            try simp only [Act.put, List.setIfInBounds_toArray, List.set_cons_zero, List.set_cons_succ]
            refine take_at (i := 20) (d := some 106) (v := ?_) rfl rfl (by kernel_rfl) (by kernel_rfl) (by kernel_rfl) (fun _ _ _ h => h) (Or.inl ⟨by rfl, ?_⟩) (by assumption) ?_
            rotate_left
            · (intro w hSw; (try dsimp only at hSw); go_simp; try with_reducible rfl)
            try simp only [Act.put, List.setIfInBounds_toArray, List.set_cons_zero, List.set_cons_succ]
            refine take_at (i := 21) (d := some 107) (v := .string SEC) rfl rfl (by kernel_rfl) (by kernel_rfl) (by kernel_rfl) (fun _ _ _ h => h) (Or.inl ⟨by rfl, ?_⟩) (by assumption) ?_
            · intro W hSw; have hcv := HCVI.out W hSw; go_simp; try with_reducible rfl
            try simp only [Act.put, List.setIfInBounds_toArray, List.set_cons_zero, List.set_cons_succ]
            refine take_at (i := 22) (d := some 108) (v := ?_) rfl rfl (by kernel_rfl) (by kernel_rfl) (by kernel_rfl) (fun _ _ _ h => h) (Or.inl ⟨by rfl, ?_⟩) (by assumption) ?_
            rotate_left
            · (intro w hSw; (try dsimp only at hSw); go_simp; try with_reducible rfl)
            try simp only [Act.put, List.setIfInBounds_toArray, List.set_cons_zero, List.set_cons_succ]
            refine take_at (i := 23) (d := some 109) (v := ?_) rfl rfl (by kernel_rfl) (by kernel_rfl) (by kernel_rfl) (fun _ _ _ h => h) (Or.inl ⟨by rfl, ?_⟩) (by assumption) ?_
            rotate_left
            · (intro w hSw; (try dsimp only at hSw); go_simp; try with_reducible rfl)
            try simp only [Act.put, List.setIfInBounds_toArray, List.set_cons_zero, List.set_cons_succ]
            refine take_at (i := 24) (d := some 110) (v := ?_) rfl rfl (by kernel_rfl) (by kernel_rfl) (by kernel_rfl) (fun _ _ _ h => h) (Or.inl ⟨by rfl, ?_⟩) (by assumption) ?_
            rotate_left
            · (intro w hSw; (try dsimp only at hSw); go_simp; try with_reducible rfl)
            try simp only [Act.put, List.setIfInBounds_toArray, List.set_cons_zero, List.set_cons_succ]
            refine wpAnyH_done (by kernel_rfl) ?_ _
            go_wp2_with fail
            go_roundw
            case rel => exact ⟨i + 1, HLT.out, by go_num, HKD.out.trans kz⟩
            case measure => (have h := HLT.out; simp [intOf]; omega)
        · obtain rfl : i = 40 := by omega
          have hk8 := hK
          have HT := Lib.hid hK
          clear hlt
          go_wp2_with fail
          refine (ht _).mono ?_; rintro e w11 ⟨rfl, k11⟩
          go_wp2_with fail
          refine (haw _).mono ?_; rintro e w12 ⟨rfl, k12⟩
          have hkf := (((K10.out.trans HT.out).trans k11).trans k12).below
          go_wp2_with fail
          go_ret
          exact ⟨rfl, hkf⟩
end Go.Proofs.Ytdnbddhjdokbfaa
