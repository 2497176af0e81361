/- Layer 12 (blob): what was put is got, and all else stays: plain. -/
import Derived.Test.YtdnbddhjdokbfaaG12
import Derived.Test.YtdnbddhjdokbfaaG17
import Derived.Test.YtdnbddhjdokbfaaG26
import Derived.Test.YtdnbddhjdokbfaaG29
import Derived.Test.YtdnbddhjdokbfaaG35
namespace Go.Proofs.Ytdnbddhjdokbfaa
open Go.RowKit
set_option linter.unusedVariables false
set_option linter.unusedSimpArgs false

theorem put_ok (al : List Nat) : ∀ (d : DK) (s : List UInt8), Fit d → d.down = false → d.fuse < 0 → (∀ a ∈ al, a < d.stand.length) → al.Nodup →
    ∃ d', putL al d s = (d', 0) ∧ d'.stand = d.stand ∧ d'.down = false ∧ d'.fuse = d.fuse ∧ Fit d' ∧ d'.ops = d.ops + al.length ∧ d'.waits.length = d.waits.length + al.length ∧ (∀ i, i ∉ al → seen d' i = seen d i) ∧ ∀ i (h : i < al.length), seen d' al[i] = chunk (s.drop (128 * i)) := by
  induction al with
  | nil =>
    intro d s hf hd hfu _ _
    exact ⟨d, rfl, rfl, hd, rfl, hf, rfl, rfl, fun _ _ => rfl, fun i h => absurd h (Nat.not_lt_zero _)⟩
  | cons a t ih =>
    intro d s hf hd hfu hlt hnd
    have ha := hlt a List.mem_cons_self
    obtain ⟨hat, hnt⟩ := List.nodup_cons.1 hnd
    obtain ⟨hc, hn⟩ := write_ok (s := s) hd hfu ha
    have hdn : (writeD d a (chunk s)).down = false := by
      show (if d.fuse = 0 then true else d.down) = false
      rw [if_neg (by omega), hd]
    have hfn : (writeD d a (chunk s)).fuse = d.fuse := by
      show (if 0 < d.fuse then d.fuse - 1 else d.fuse) = d.fuse
      rw [if_neg (by omega)]
    have hfit : Fit (writeD d a (chunk s)) := by rw [← hn]; exact hf.write _ _
    have hops : (writeD d a (chunk s)).ops = d.ops + 1 := rfl
    have hwl : (writeD d a (chunk s)).waits.length = d.waits.length + 1 := by show (d.waits ++ [_]).length = _; rw [List.length_append]; rfl
    obtain ⟨d', e1, e2, e3, e4, e5, eo, ew, e6, e7⟩ := ih (writeD d a (chunk s)) (s.drop 128) hfit hdn (by rw [hfn]; exact hfu) (fun x hx => hlt x (List.mem_cons_of_mem _ hx)) hnt
    refine ⟨d', ?_, e2, e3, e4.trans hfn, e5, by rw [eo, hops, List.length_cons]; omega, by rw [ew, hwl, List.length_cons]; omega, fun i hi => ?_, fun i h => ?_⟩
    · rw [putL, if_pos hc, hn, e1]
    · rw [e6 i (fun h => hi (List.mem_cons_of_mem _ h)), seen_write, if_neg (fun h => hi (by subst h; exact List.mem_cons_self))]
    · cases i with
      | zero =>
        show seen d' a = _
        rw [e6 a hat, seen_write, if_pos rfl]; rfl
      | succ i =>
        have := e7 i (by simpa using h)
        rw [List.drop_drop, show 128 + 128 * i = 128 * (i + 1) from by omega] at this
        exact this
theorem getL_chunks (al : List Nat) : ∀ (d : DK) (s : List UInt8), (∀ i (h : i < al.length), seen d al[i] = chunk (s.drop (128 * i))) → getL d al = chunksL al.length s := by
  induction al with
  | nil => intro d s _; rfl
  | cons a t ih =>
    intro d s h
    have e : getL d (a :: t) = seen d a ++ getL d t := rfl
    have h0 := h 0 (by simp)
    simp only [Nat.mul_zero, List.drop_zero, List.getElem_cons_zero] at h0
    rw [e, List.length_cons, chunksL, h0, ih d (s.drop 128) (fun i hi => by
      have := h (i + 1) (by simpa using hi)
      rw [List.drop_drop, show 128 + 128 * i = 128 * (i + 1) from by omega]
      simpa using this)]
theorem getL_same {d d' : DK} (al : List Nat) (h : ∀ a ∈ al, seen d' a = seen d a) : getL d' al = getL d al := by
  unfold getL
  congr 1
  exact List.map_congr_left h
/-- sectors one behind another, cut again. -/
theorem flat_cut (l : List (List UInt8)) (h : ∀ s ∈ l, s.length = 128) (i : Nat) (hi : i < l.length) : (l.flatten.drop (128 * i)).take 128 = l[i] := by
  induction l generalizing i with
  | nil => simp at hi
  | cons a t ih =>
    have ha := h a List.mem_cons_self
    cases i with
    | zero =>
      rw [Nat.mul_zero, List.drop_zero, List.flatten_cons, List.take_append_of_le_length (by omega), ← ha, List.take_length]
      rfl
    | succ i =>
      rw [List.flatten_cons, show 128 * (i + 1) = a.length + 128 * i from by omega, ← List.drop_drop, List.drop_left]
      exact ih (fun s hs => h s (List.mem_cons_of_mem _ hs)) i (by simpa using hi)
/-- a disk that never was cut, behind bytes that were put, a flush, and a power that goes or not. -/
theorem back_plain {d : DK} {n : Nat} (hf : Fit d) (hC : Calm d n 0) (hw : d.waits = []) {l : List (Int × Int)} {s : List UInt8} (hX : FitX l n s.length) :
    ∃ d', putX d l s = (d', 0) ∧ fCode d' = 0 ∧ d'.ops ≤ 9000 ∧ d'.waits.length ≤ 9000 ∧ ∀ d2, d2 = fNext d' ∨ d2 = powerD (fNext d') [] →
      Fit d2 ∧ d2.waits = [] ∧ d2.stand.length = n ∧ getCode d2 l s.length = 0 ∧ getX d2 l s.length = s ∧ ∀ i, i < n → i ∉ secsL l → d2.stand.getD i [] = d.stand.getD i [] := by
  have hX' : FitX l d.stand.length s.length := by rw [hC.len]; exact hX
  have hlt : ∀ a ∈ secsL l, a < d.stand.length := fun a ha => by have := (hX'.lt ha).1; omega
  obtain ⟨d', e1, e2, e3, e4, e5, eo, ew, e6, e7⟩ := put_ok (secsL l) d s hf hC.down (by rw [hC.fuse]; decide) hlt (secsL_nodup hX.2.2.1)
  have hsl := hX.secs
  have hsl2 : (secsL l).length ≤ 8192 := by
    have h1 := count_may hX.2.2.1 (by omega)
    have h2 := secsL_len hX.2.2.1.1
    have h3 : countL l ≤ 8192 := by
      unfold countL
      have : ∀ f k, cntF f k ≤ k := fun f k => by
        induction k with
        | zero => exact Nat.le_refl _
        | succ k ih => simp only [cntF]; split <;> omega
      exact this _ _
    omega
  have hput : putX d l s = (d', 0) := by
    unfold putX
    rw [if_pos hX', if_neg (by rw [hC.down]; simp), e1]
  have hfc : fCode d' = 0 := by
    unfold fCode
    rw [if_neg (by rw [e3]; simp), if_neg (by rw [e4, hC.fuse]; decide)]
  have hn : fNext d' = settleD (opD d') (fun _ => true) := by
    unfold fNext
    rw [if_neg (by rw [e3]; simp), if_neg (by rw [e4, hC.fuse]; decide)]
  refine ⟨d', hput, hfc, by rw [eo]; have := hC.ops; omega, by rw [ew, hw]; simp; omega, fun d2 hd2 => ?_⟩
  have hs : ∀ i, i < n → seen d2 i = seen d' i := fun i hi => by
    have h1 : seen (fNext d') i = seen d' i := by
      rw [hn]
      exact seen_settle (opD d') i (by show i < d'.stand.length; rw [e2, hC.len]; exact hi)
    rcases hd2 with rfl | rfl
    · exact h1
    · rw [← h1]
      rw [hn]
      rfl
  have hl2 : d2.stand.length = n := by
    have h1 : (fNext d').stand.length = n := by
      rw [hn, settle_len]
      show d'.stand.length = n
      rw [e2, hC.len]
    rcases hd2 with rfl | rfl
    · exact h1
    · rw [power_len, h1]
  have hw2 : d2.waits = [] := by
    rcases hd2 with rfl | rfl
    · rw [hn]; rfl
    · rfl
  have hdn : d2.down = false := by
    rcases hd2 with rfl | rfl
    · rw [hn]
      show (if d'.fuse = 0 then true else d'.down) = false
      rw [if_neg (by rw [e4, hC.fuse]; decide), e3]
    · rfl
  have hf2 : Fit d2 := by
    rcases hd2 with rfl | rfl
    · exact e5.flush
    · exact e5.flush.power []
  have hX2 : FitX l d2.stand.length s.length := by rw [hl2]; exact hX
  have hgc : getCode d2 l s.length = 0 := by
    unfold getCode
    rw [if_pos hX2, if_neg (by rw [hdn]; simp)]
  refine ⟨hf2, hw2, hl2, hgc, ?_, fun i hi hni => ?_⟩
  · unfold getX
    rw [if_pos hgc, Int.toNat_natCast, getL_chunks (secsL l) d2 s (fun i h => by rw [hs _ (by have := hlt _ (List.getElem_mem h); have := hC.len; omega)]; exact e7 i h)]
    refine chunksL_take _ _ ?_
    have : ((secsL l).length : Int) = need (s.length : Int) := hsl
    unfold need at this
    split at this <;> omega
  · have h1 : seen d2 i = d2.stand.getD i [] := by unfold seen; rw [hw2]; rfl
    have h2 : seen d i = d.stand.getD i [] := by unfold seen; rw [hw]; rfl
    rw [← h1, ← h2, hs i hi, e6 i hni]
end Go.Proofs.Ytdnbddhjdokbfaa

/- Layer 12 (blob): the page's example. -/
namespace Go.Proofs.Ytdnbddhjdokbfaa
open Go.RowKit Go.Shelf
set_option linter.unusedVariables false
set_option linter.unusedSimpArgs false

theorem Alone.lts {W0 w : World} {b sb mb lo : Nat} {d : DK} (h : Alone W0 w b sb mb lo d) : b < w.heap.size ∧ sb < w.heap.size ∧ mb < w.heap.size := by
  obtain ⟨wv, n, ob, os, hw, hm, hn, g1, g2, _⟩ := h.disk
  have := ob.lt
  exact ⟨this, os.lt, by omega⟩
def awakeR : List (Int × Int) := [(7, 1), (3, 1)]
theorem awake_fit : FitX awakeR 9 129 := by
  have h : MayX 0 9 awakeR := by
    refine ⟨fun a ha => ?_, ?_⟩
    · have : a = (7, 1) ∨ a = (3, 1) := by simpa [awakeR] using ha
      rcases this with rfl | rfl <;> exact ⟨by decide, by decide, by decide, by decide⟩
    · refine List.pairwise_cons.2 ⟨fun b hb => ?_, List.pairwise_cons.2 ⟨fun b hb => (by cases hb), List.Pairwise.nil⟩⟩
      obtain rfl : b = (3, 1) := by simpa using hb
      exact Or.inr (by decide)
  refine ⟨by decide, by decide, h, ?_⟩
  rw [count_may h (by decide)]
  rfl
theorem textV_129 : textV 129 = textV 128 ++ [129] := by
  unfold textV
  rw [tabL_succ]
  rfl
theorem chunk_129 : chunk (textV 129) = textV 128 := by
  have hl : (textV 128).length = 128 := tabL_len _ _
  unfold chunk fillL
  rw [textV_129, List.take_append_of_le_length (by omega), List.take_of_length_le (by omega), hl]
  simp
def lastV : List UInt8 := 129 :: List.replicate 127 0
theorem chunk_last : chunk ((textV 129).drop 128) = lastV := by
  have hl : (textV 128).length = 128 := tabL_len _ _
  have e : (textV 129).drop 128 = [129] := by rw [textV_129, List.drop_append_of_le_length (by omega), List.drop_of_length_le (by omega)]; rfl
  rw [e]; rfl
theorem awake_plain : ∃ d, putX (newD (List.replicate 9 zeroS)) awakeR (textV 129) = (d, 0) ∧ getCode d awakeR 129 = 0 ∧ getX d awakeR 129 = textV 129 ∧ atOf d 7 = 0 ∧ rVal d 7 = textV 128 ∧ atOf d 3 = 0 ∧ rVal d 3 = lastV ∧ d.ops ≤ 10 := by
  have hl : (textV 129).length = 129 := tabL_len _ _
  have hs : secsL awakeR = [7, 3] := rfl
  have hX : FitX awakeR (newD (List.replicate 9 zeroS)).stand.length (textV 129).length := by rw [hl]; exact awake_fit
  obtain ⟨d', e1, e2, e3, e4, e5, eo, ew, e6, e7⟩ := put_ok [7, 3] (newD (List.replicate 9 zeroS)) (textV 129) (Fit.new 9) rfl (by decide) (by decide) (by decide)
  have hlen : d'.stand.length = 9 := by rw [e2]; rfl
  have hC : getCode d' awakeR 129 = 0 := by
    unfold getCode
    rw [hlen, if_pos (show FitX awakeR ((9 : Nat) : Int) 129 from awake_fit), e3]; rfl
  have s7 := e7 0 (by decide)
  have s3 := e7 1 (by decide)
  have a7 : atOf d' 7 = 0 := by unfold atOf; rw [e3, hlen]; rfl
  have a3 : atOf d' 3 = 0 := by unfold atOf; rw [e3, hlen]; rfl
  refine ⟨d', ?_, hC, ?_, a7, ?_, a3, ?_, by rw [eo]; decide⟩
  · unfold putX
    rw [if_pos hX, if_neg (by decide), hs, e1]
  · unfold getX
    rw [if_pos hC, hs, getL_chunks [7, 3] d' (textV 129) e7]
    have h := chunksL_take 2 (textV 129) (by rw [hl]; decide)
    rw [hl] at h
    exact h
  · unfold rVal
    rw [if_pos a7]
    show seen d' 7 = _
    rw [show seen d' 7 = chunk ((textV 129).drop (128 * 0)) from s7]
    exact chunk_129
  · unfold rVal
    rw [if_pos a3]
    show seen d' 3 = _
    rw [show seen d' 3 = chunk ((textV 129).drop (128 * 1)) from s3]
    exact chunk_last
set_option maxRecDepth 100000 in
set_option maxHeartbeats 2000000 in
theorem awakeV (w : World) : Calls Try.prog 13 #[] w fun e w' => e = .returned (.bool true) ∧ Kept [] w w' := by
  have hnew := fun W => aNew 9 W (by decide) (by decide)
  have ht := fun W => vtext 129 W (by decide)
  have ht8 := fun W => vtext 128 W (by decide)
  have hl : (textV 129).length = 129 := tabL_len _ _
  have hl8 : (textV 128).length = 128 := tabL_len _ _
  obtain ⟨d, e1, e2, e3, e4, e5, e6, e7, e8⟩ := awake_plain
  have hwf : ∀ a ∈ awakeR, WfRun a := wf_small (fun a ha => by
    have : a = (7, 1) ∨ a = (3, 1) := by simpa [awakeR] using ha
    rcases this with rfl | rfl <;> exact ⟨by decide, by decide, by decide, by decide⟩)
  have HWF := Lib.hid hwf
  have HE := Lib.hid (And.intro e1 (And.intro e2 e3))
  have HR := Lib.hid (And.intro (And.intro e4 e5) (And.intro e6 e7))
  clear hwf e1 e2 e3 e4 e5 e6 e7 e8
  go_enter Try.func13, Try.ntmps13
  go_wp2_with fail
  refine (hnew _).mono ?_; rintro e w1 ⟨b, sb, mb, lo, rfl, hA⟩
  clear hnew
  have hI0 := Lib.hid (hA.alloc (.cells #[.int .i64 7, .int .i64 1, .int .i64 3, .int .i64 1] 66))
  obtain ⟨l1, l2, l3⟩ := hA.lts
  have hO := aloneB w b sb mb lo w1.heap.size l1 l2 l3
  have oR := Own.new w1 #[.int .i64 7, .int .i64 1, .int .i64 3, .int .i64 1] 66
  go_wp2_with fail
  refine (ht _).mono ?_; rintro e w2 ⟨rfl, k2⟩
  have hI2 := hI0.out.keep0 k2
  have hR2 := (runs_lit2 w1 7 1 3 1).kept0 k2
  have hp := bput hO _ _ awakeR (textV 129) _ _ w2 hI2 (by have := k2.size; simp at this; omega) hR2 (by decide) HWF.out (by rw [hl]; decide) (by decide) (by decide)
  unfold PutSays at hp
  rw [HE.out.1] at hp
  go_wp2_with fail
  refine hp.mono ?_; rintro e w3 ⟨rfl, hI3, hA3⟩
  have oR3 := hA3.own (k2.own oR (by simp)) (Nat.le_refl _) (by decide)
  have hR3 : RunsIn w3 (.slice (some ⟨w1.heap.size, 0, none⟩) 2 2) awakeR 0 w3.heap.size := by
    refine Or.inr ⟨w1.heap.size, 0, 2, rfl, fun i hi => ?_, Nat.zero_le _, oR3.lt, Nat.le_refl _, by simp [awakeR], by simp [awakeR], by unfold maxLen; omega⟩
    rcases (by simp [awakeR] at hi; omega : i = 0 ∨ i = 1) with rfl | rfl
    · exact ⟨oR3.cell 0 (by simp), oR3.cell 1 (by simp)⟩
    · exact ⟨oR3.cell 2 (by simp), oR3.cell 3 (by simp)⟩
  have hg := bget hO.ops _ _ awakeR 129 _ _ w3 hI3 hR3 (by decide) HWF.out (by decide)
  unfold GetSays at hg
  rw [HE.out.2.1, HE.out.2.2] at hg
  clear hp
  go_wp2_with fail
  refine hg.mono ?_; rintro e w4 ⟨rfl, k4⟩
  have hI4 := hI3.keep0 k4
  have h7 := hI4.read 7
  rw [HR.out.1.1, HR.out.1.2] at h7
  have h3 := hI4.read 3
  rw [HR.out.2.1, HR.out.2.2] at h3
  clear hg hI2 hR2 hI3 hR3 oR3 oR
  go_wp2_with fail
  refine h7.mono ?_; rintro e w' ⟨rfl, rfl⟩
  go_wp2_with fail
  refine h3.mono ?_; rintro e w' ⟨rfl, rfl⟩
  have HK := Lib.hid hI4.kept
  have z3 : (bs lastV).size = 128 := by rw [bs_size]; rfl
  clear h7 h3 hI4
  generalize textV 129 = A at *
  generalize textV 128 = B at *
  go_wp2_with fail
  refine (ht _).mono ?_; rintro e w5 ⟨rfl, k5⟩
  go_wp2_with fail
  refine (ht8 _).mono ?_; rintro e w6 ⟨rfl, k6⟩
  go_wp2_with fail
  go_ret
  exact ⟨rfl, (HK.out.trans k5).trans k6⟩
end Go.Proofs.Ytdnbddhjdokbfaa

/- Layer 12 (blob): nobody's disk. -/
namespace Go.Proofs.Ytdnbddhjdokbfaa
open Go.RowKit
set_option linter.unusedVariables false
set_option linter.unusedSimpArgs false

set_option maxRecDepth 100000 in
theorem bcheck_nil (v : Value) (size : Int) (w : World) : Calls Try.prog 37 #[.pointer none, v, .int .i64 size] w fun e w' => e = .returned (.int .i64 4) ∧ w = w' := by
  have hl := dLen_nil
  go_enter Try.func37, Try.ntmps37
  go_wp2_with fail
  refine (hl _).mono ?_; rintro e w1 ⟨rfl, rfl⟩
  go_wp2_with fail
  go_ret
  exact ⟨rfl, rfl⟩
set_option maxRecDepth 100000 in
theorem bput_nil (v : Value) (s : ByteArray) (w : World) : Calls Try.prog 15 #[.pointer none, v, .string s] w fun e w' => e = .returned (.int .i64 4) ∧ w = w' := by
  have hl := bcheck_nil v s.size w
  go_enter Try.func15, Try.ntmps15
  go_wp2_with fail
  go_step3
  go_wp2_with fail
  refine hl.mono ?_; rintro e w1 ⟨rfl, rfl⟩
  go_wp2_with fail
  rw [Exit.noGoto_ret]
  go_ret
  exact ⟨rfl, rfl⟩
set_option maxRecDepth 100000 in
theorem bget_nil (v : Value) (size : Int) (w : World) : Calls Try.prog 14 #[.pointer none, v, .int .i64 size] w fun e w' => e = .returned (.tuple #[.string ⟨#[]⟩, .int .i64 4]) ∧ Kept [] w w' := by
  have hl := fun W => bcheck_nil v size W
  go_enter Try.func14, Try.ntmps14
  go_wp2_with fail
  refine (hl _).mono ?_; rintro e w1 ⟨rfl, rfl⟩
  go_wp2_with fail
  have o6 := (Own.new (w.alloc (.cells #[.pointer none] 40)) #[.string ⟨#[]⟩] 9).alloc (.cells #[.int .i64 4] 32)
  have o7 := Own.new ((w.alloc (.cells #[.pointer none] 40)).alloc (.cells #[.string ⟨#[]⟩] 9)) #[.int .i64 4] 32
  simp only [World.size_alloc] at o6 o7
  have c6 := o6.cell 0 (by simp)
  have c7 := o7.cell 0 (by simp)
  refine bodyPost_ret (v := .tuple #[.string ⟨#[]⟩, .int .i64 4]) ?_ rfl ⟨rfl, ((((Kept.refl [] w).alloc _).alloc _).alloc _)⟩
  simp [results, Try.f14, go_sem, c6, c7]
end Go.Proofs.Ytdnbddhjdokbfaa

/- Layer 12 (blob): not more runs than are looked at. -/
namespace Go.Proofs.Ytdnbddhjdokbfaa
open Go.RowKit
set_option linter.unusedVariables false
set_option linter.unusedSimpArgs false

set_option maxRecDepth 100000 in
set_option maxHeartbeats 2000000 in
theorem bfew (v : Value) (l : List (Int × Int)) (lo hi : Nat) (w : World) (h : RunsIn w v l lo hi) :
    Calls Try.prog 7 #[v] w fun e w' => (∃ v', e = .returned v' ∧ RunsIn w v' (l.take 20) lo hi) ∧ w = w' := by
  obtain ⟨p, c, rfl⟩ := h.shape
  by_cases hl : l.length ≤ 20
  · rw [List.take_of_length_le hl]
    have hl' : (l.length : Int) ≤ 20 := by omega
    have H := Lib.hid h
    clear h
    generalize l.length = ll at *
    go_enter Try.func7, Try.ntmps7
    go_wp2_with fail
    go_ret
    exact ⟨⟨_, rfl, H.out⟩, rfl⟩
  · have hl' : 20 < (l.length : Int) := by omega
    have hc := h.lenle (fun e => by rw [e] at hl; simp at hl)
    have ht := h.take 20 (by omega) (by omega)
    have hm := hc
    have hcm : 20 ≤ c := by omega
    have hcm' : (20 : Int) ≤ (c : Int) := by omega
    have H := Lib.hid ht
    clear h ht hm
    generalize l.length = ll at *
    go_enter Try.func7, Try.ntmps7
    go_wp2_with fail
    go_ret
    exact ⟨⟨_, rfl, H.out⟩, rfl⟩
end Go.Proofs.Ytdnbddhjdokbfaa
