/- Layer 12 (blob): which runs fit, the program's and the document's; why bytes can't be put. -/
import Derived.Test.YtdnbddhjdokbfaaG13
import Derived.Test.YtdnbddhjdokbfaaG26
import Derived.Test.YtdnbddhjdokbfaaG28
namespace Go.Proofs.Ytdnbddhjdokbfaa
open Go.RowKit
set_option linter.unusedVariables false
set_option linter.unusedSimpArgs false

def FitSays (l : List (Int × Int)) (n size : Int) (w : World) (e : Ending) (w' : World) : Prop := ∃ r, e = .returned (.bool r) ∧ (r = true ↔ FitX l n size) ∧ Kept [] w w'
theorem fitSays_no {l : List (Int × Int)} {n size : Int} {w w' : World} (h : ¬ FitX l n size) (k : Kept [] w w') : FitSays l n size w (.returned (.bool false)) w' := ⟨false, rfl, ⟨fun q => (by cases q), fun q => absurd q h⟩, k⟩
theorem fitSays_yes {l : List (Int × Int)} {n size : Int} {w w' : World} (h : FitX l n size) (k : Kept [] w w') : FitSays l n size w (.returned (.bool true)) w' := ⟨true, rfl, ⟨fun _ => h, fun _ => rfl⟩, k⟩

set_option maxRecDepth 100000 in
set_option maxHeartbeats 2000000 in
theorem bFit (v : Value) (l : List (Int × Int)) (n size : Int) (lo hi : Nat) (w : World) (h : RunsIn w v l lo hi) (hl : l.length ≤ 1000000) (hwf : ∀ a ∈ l, WfRun a) (hn : (Lit.int .i64 n).wf = true) (hs : (Lit.int .i64 size).wf = true) :
    Calls Try.prog 10 #[v, .int .i64 n, .int .i64 size] w (FitSays l n size w) := by
  have bn := bd64 hn
  have bz := bd64 hs
  obtain ⟨m, hm⟩ : ∃ m, min n 8192 = m := ⟨_, rfl⟩
  have HM : ∀ W, Kept [] w W → Calls Try.prog 31 #[v, .int .i64 0, .int .i64 m] W (MayXSays 0 m l W) := fun W k => xmay v l 0 m lo hi W (h.kept0 k) hl hwf (by omega) (by omega) (by omega) (by omega)
  have HC : ∀ W, Kept [] w W → Calls Try.prog 32 #[v] W fun e w' => e = .returned (.int .i64 (countL l)) ∧ Kept [] W w' := fun W k => xcount v l lo hi W (h.kept0 k) hl hwf
  have HN := fun W => pneed size W hs
  have hfx : FitX l n size ↔ (0 ≤ size ∧ l.length ≤ 16 ∧ MayX 0 m l ∧ (countL l : Int) = need size) := by rw [← hm]; rfl
  have HF := Lib.hid hfx
  obtain ⟨p, c, rfl⟩ := h.shape
  obtain ⟨N, hN⟩ : ∃ N : Int, (l.length : Int) = N := ⟨_, rfl⟩
  have hN16 : l.length ≤ 16 ↔ N ≤ 16 := by omega
  have HNI := Lib.hid hN16
  obtain ⟨C, hC⟩ : ∃ C : Int, (countL l : Int) = C := ⟨_, rfl⟩
  rw [hC] at HF
  have HC' : ∀ W, Kept [] w W → Calls Try.prog 32 #[.slice p l.length c] W fun e w' => e = .returned (.int .i64 C) ∧ Kept [] W w' := by rw [← hC]; exact HC
  generalize need size = q at *
  clear HC hfx hN16 h hl hwf hn hs hC
  by_cases h1 : 0 ≤ size
  · by_cases h2 : N ≤ 16
    · go_enter Try.func10, Try.ntmps10
      go_wp2_with fail
      refine (HM _ (Kept.refl _ _)).mono ?_; rintro e w1 ⟨r, rfl, hr, k1⟩
      have HR := Lib.hid hr
      clear hr
      cases r with
      | false =>
        go_wp2_with fail
        go_ret
        exact fitSays_no (fun hf => by have := HR.out.2 (HF.out.1 hf).2.2.1; cases this) k1
      | true =>
        go_wp2_with fail
        refine (HC' _ k1).mono ?_; rintro e w2 ⟨rfl, k2⟩
        have k12 := k1.trans k2
        go_wp2_with fail
        refine (HN _).mono ?_; rintro e w3 ⟨rfl, rfl⟩
        by_cases he : C = q
        · have e1 : (C == q) = true := by simp [he]
          have e2 : decide (C = q) = true := by simp [he]
          have HE := Lib.hid he
          clear he
          go_wp2_with fail
          go_ret
          exact fitSays_yes (HF.out.2 ⟨h1, HNI.out.2 h2, HR.out.1 (by simp), HE.out⟩) k12
        · have e1 : (C == q) = false := by simp [he]
          have e2 : decide (C = q) = false := by simp [he]
          have HE := Lib.hid he
          clear he
          go_wp2_with fail
          go_ret
          exact fitSays_no (fun hf => HE.out (HF.out.1 hf).2.2.2) k12
    · go_enter Try.func10, Try.ntmps10
      go_wp2_with fail
      go_ret
      exact fitSays_no (fun hf => by have := HNI.out.1 (HF.out.1 hf).2.1; omega) (Kept.refl _ _)
  · go_enter Try.func10, Try.ntmps10
    go_wp2_with fail
    go_ret
    exact fitSays_no (fun hf => by have := (HF.out.1 hf).1; omega) (Kept.refl _ _)

set_option maxRecDepth 100000 in
set_option maxHeartbeats 2000000 in
theorem qFit (v : Value) (l : List (Int × Int)) (n size : Int) (lo hi : Nat) (w : World) (h : RunsIn w v l lo hi) (hl : l.length ≤ 1000000) (hwf : ∀ a ∈ l, WfRun a) (hn : (Lit.int .i64 n).wf = true) (hs : (Lit.int .i64 size).wf = true) :
    Calls Try.prog 11 #[v, .int .i64 n, .int .i64 size] w (FitSays l n size w) := by
  have bn := bd64 hn
  have bz := bd64 hs
  obtain ⟨m, hm⟩ : ∃ m, min n 8192 = m := ⟨_, rfl⟩
  have HM : ∀ W, Kept [] w W → Calls Try.prog 30 #[v, .int .i64 0, .int .i64 m] W (MayXSays 0 m l W) := fun W k => zmay v l 0 m lo hi W (h.kept0 k) hl hwf (by omega) (by omega) (by omega) (by omega)
  have HC : ∀ W, Kept [] w W → Calls Try.prog 34 #[v] W fun e w' => e = .returned (.int .i64 (countL l)) ∧ Kept [] W w' := fun W k => zcount v l lo hi W (h.kept0 k) hl hwf
  have HN := fun W => rneed size W hs
  have hfx : FitX l n size ↔ (0 ≤ size ∧ l.length ≤ 16 ∧ MayX 0 m l ∧ (countL l : Int) = need size) := by rw [← hm]; rfl
  have HF := Lib.hid hfx
  obtain ⟨p, c, rfl⟩ := h.shape
  obtain ⟨N, hN⟩ : ∃ N : Int, (l.length : Int) = N := ⟨_, rfl⟩
  have hN16 : l.length ≤ 16 ↔ N ≤ 16 := by omega
  have HNI := Lib.hid hN16
  obtain ⟨C, hC⟩ : ∃ C : Int, (countL l : Int) = C := ⟨_, rfl⟩
  rw [hC] at HF
  have HC' : ∀ W, Kept [] w W → Calls Try.prog 34 #[.slice p l.length c] W fun e w' => e = .returned (.int .i64 C) ∧ Kept [] W w' := by rw [← hC]; exact HC
  generalize need size = q at *
  clear HC hfx hN16 h hl hwf hn hs hC
  by_cases h1 : size < 0
  · go_enter Try.func11, Try.ntmps11
    go_wp2_with fail
    go_ret
    exact fitSays_no (fun hf => by have := (HF.out.1 hf).1; omega) (Kept.refl _ _)
  · by_cases h2 : 16 < N
    · go_enter Try.func11, Try.ntmps11
      go_wp2_with fail
      go_ret
      exact fitSays_no (fun hf => by have := HNI.out.1 (HF.out.1 hf).2.1; omega) (Kept.refl _ _)
    · go_enter Try.func11, Try.ntmps11
      go_wp2_with fail
      refine (HM _ (Kept.refl _ _)).mono ?_; rintro e w1 ⟨r, rfl, hr, k1⟩
      have HR := Lib.hid hr
      clear hr
      cases r with
      | false =>
        go_wp2_with fail
        go_ret
        exact fitSays_no (fun hf => by have := HR.out.2 (HF.out.1 hf).2.2.1; cases this) k1
      | true =>
        go_wp2_with fail
        refine (HC' _ k1).mono ?_; rintro e w2 ⟨rfl, k2⟩
        have k12 := k1.trans k2
        go_wp2_with fail
        refine (HN _).mono ?_; rintro e w3 ⟨rfl, rfl⟩
        by_cases he : C = q
        · have e1 : (C == q) = true := by simp [he]
          have e2 : decide (C = q) = true := by simp [he]
          have HE := Lib.hid he
          clear he
          go_wp2_with fail
          go_ret
          exact fitSays_yes (HF.out.2 ⟨by omega, HNI.out.2 (by omega), HR.out.1 (by simp), HE.out⟩) k12
        · have e1 : (C == q) = false := by simp [he]
          have e2 : decide (C = q) = false := by simp [he]
          have HE := Lib.hid he
          clear he
          go_wp2_with fail
          go_ret
          exact fitSays_no (fun hf => HE.out (HF.out.1 hf).2.2.2) k12

theorem getCode_no {d : DK} {l : List (Int × Int)} {size : Int} (h : ¬ FitX l d.stand.length size) : getCode d l size = 1 := if_neg h
theorem getCode_yes {d : DK} {l : List (Int × Int)} {size : Int} (h : FitX l d.stand.length size) : getCode d l size = if d.down = true then 90 else 0 := if_pos h
theorem wf_few {n : Nat} (h : n ≤ 100000000) : (Lit.int .i64 (n : Int)).wf = true := by
  simp only [Lit.wf, Bool.and_eq_true, decide_eq_true_eq]
  exact ⟨by show (-9223372036854775808 : Int) ≤ _; omega, by show _ ≤ (9223372036854775807 : Int); omega⟩
set_option maxRecDepth 100000 in
set_option maxHeartbeats 2000000 in
/-- why bytes can't be put, or got. -/
theorem bcheck {Inv : DK → World → Prop} {b : Nat} (hO : DOps Inv b) (d : DK) (v : Value) (l : List (Int × Int)) (size : Int) (lo hi : Nat) (w : World) (hI : Inv d w) (h : RunsIn w v l lo hi) (hl : l.length ≤ 1000000) (hwf : ∀ a ∈ l, WfRun a) (hs : (Lit.int .i64 size).wf = true) :
    Calls Try.prog 37 #[.pointer (some ⟨b, 0, none⟩), v, .int .i64 size] w fun e w' => e = .returned (.int .i64 (getCode d l size)) ∧ Kept [] w w' := by
  obtain ⟨n1, n2⟩ := hO.len hI
  have HL : ∀ W, Kept [] w W → Calls Try.prog 65 #[.pointer (some ⟨b, 0, none⟩)] W fun e w' => e = .returned (.int .i64 d.stand.length) ∧ W = w' := fun W k => hO.lenC (hO.keep hI k)
  have HD : ∀ W, Kept [] w W → Calls Try.prog 27 #[.pointer (some ⟨b, 0, none⟩)] W fun e w' => e = .returned (.bool d.down) ∧ W = w' := fun W k => hO.downC (hO.keep hI k)
  have HF : ∀ W, Kept [] w W → Calls Try.prog 10 #[v, .int .i64 d.stand.length, .int .i64 size] W (FitSays l d.stand.length size W) := fun W k => bFit v l _ size lo hi W (h.kept0 k) hl hwf (wf_few (by omega)) hs
  have HG0 := Lib.hid (@getCode_no d l size)
  have HG1 := Lib.hid (@getCode_yes d l size)
  clear h hl hwf hs
  generalize getCode d l size = G at *
  obtain ⟨N, hN⟩ : ∃ N : Int, (d.stand.length : Int) = N := ⟨_, rfl⟩
  have hN1 : 1 ≤ N := by omega
  have hN2 : N ≤ 8192 := by omega
  rw [hN] at HL HF HG0 HG1
  clear hN n1 n2
  generalize d.down = D at *
  have k0 := Kept.refl [] w
  go_enter Try.func37, Try.ntmps37
  go_wp2_with fail
  refine (HL _ k0).mono ?_; rintro e w1 ⟨rfl, rfl⟩
  go_wp2_with fail
  refine (HL _ k0).mono ?_; rintro e w1 ⟨rfl, rfl⟩
  go_wp2_with fail
  refine (HF _ k0).mono ?_; rintro e w1 ⟨r, rfl, hr, k1⟩
  have HR := Lib.hid hr
  clear hr
  cases r with
  | false =>
    go_wp2_with fail
    go_ret
    exact ⟨by rw [HG0.out (fun hf => by have := HR.out.2 hf; cases this)]; rfl, k1⟩
  | true =>
    go_wp2_with fail
    refine (HD _ k1).mono ?_; rintro e w2 ⟨rfl, rfl⟩
    cases D with
    | false =>
      go_wp2_with fail
      go_ret
      exact ⟨by rw [HG1.out (HR.out.1 (by simp))]; rfl, k1⟩
    | true =>
      go_wp2_with fail
      go_ret
      exact ⟨by rw [HG1.out (HR.out.1 (by simp))]; rfl, k1⟩
open Classical in
/-- the sectors of runs that may be; none of others. -/
noncomputable def secsE (l : List (Int × Int)) : List Nat := if MayX 0 8192 l then secsL l else []
theorem secsL_le {l : List (Int × Int)} (h : MayX 0 8192 l) : (secsL l).length ≤ 8192 := by
  have h1 := count_may h (by omega)
  have h2 := secsL_len h.1
  have h3 : countL l ≤ 8192 := by
    unfold countL
    have : ∀ f k, cntF f k ≤ k := fun f k => by
      induction k with
      | zero => exact Nat.le_refl _
      | succ k ih => simp only [cntF]; split <;> omega
    exact this _ _
  omega
theorem secsE_le (l : List (Int × Int)) : (secsE l).length ≤ 8192 := by
  unfold secsE
  split
  · rename_i h; exact secsL_le h
  · exact Nat.zero_le _
theorem secsE_may {l : List (Int × Int)} (h : MayX 0 8192 l) : secsE l = secsL l := if_pos h
theorem secsE_no {l : List (Int × Int)} (h : ¬ MayX 0 8192 l) : secsE l = [] := if_neg h
theorem secsE_fit {l : List (Int × Int)} {n size : Int} (h : FitX l n size) : secsE l = secsL l := secsE_may ⟨fun a ha => by
  have := h.2.2.1.1 a ha
  unfold OkX at this ⊢
  omega, h.2.2.1.2⟩
theorem infoInt : ∃ i, Try.prog.info? 3 = some i ∧ i.zero = some (.int .i64 0) ∧ i.size = 1 ∧ i.bytes = 8 := by
  have hi : (Try.prog.info? 3).map (fun i => (i.zero, i.size, i.bytes)) = some (some (.int .i64 0), 1, 8) := by kernel_rfl
  obtain ⟨i0, hi0, hz0, hz1, hz2⟩ := info_parts hi
  exact ⟨i0, hi0, hz0, hz1, hz2⟩
def intsV (l : List Nat) : List Value := l.map fun k => .int .i64 ((k : Nat) : Int)
theorem intsV_len (l : List Nat) : (intsV l).length = l.length := by unfold intsV; rw [List.length_map]
end Go.Proofs.Ytdnbddhjdokbfaa

/- Layer 12 (blob): the program's iterator, made. -/
namespace Go.Proofs.Ytdnbddhjdokbfaa
open Go.RowKit Go.Shelf
set_option linter.unusedVariables false
set_option linter.unusedSimpArgs false
attribute [local go_sem] Oper.semAt_some

theorem RunsIn.wide {w : World} {v : Value} {l : List (Int × Int)} {lo hi : Nat} (h : RunsIn w v l lo hi) : RunsIn w v l 0 w.heap.size := by
  rcases h with h | ⟨b, off, c, h1, h2, h3, h4, h5, h6, h7, h8⟩
  · exact Or.inl h
  · exact Or.inr ⟨b, off, c, h1, h2, Nat.zero_le _, by omega, Nat.le_refl _, h6, h7, h8⟩

set_option maxRecDepth 100000 in
set_option maxHeartbeats 2000000 in
theorem each0_in (n : Nat) (l B1 B2 : Nat) (J : List Nat → World → Prop) (W : World) (hB1 : W.cell? ⟨B1, 0, none⟩ = some (.bool false)) (h0 : J [] W) :
    CallsIn Fence.wide n Try.prog 57 #[.func (.yield l) #[] #[], .pointer (some ⟨B1, 0, none⟩), .pointer (some ⟨B2, 0, none⟩)] W fun e W' => (∃ v, e = .returned v) ∧ J [] W' := by
  refine callsIn_of_wp Try.func57 rfl trivial ?_ rfl
  simp only [Try.ntmps57, List.size_toArray, List.length_cons, List.length_nil, Nat.reduceAdd, Nat.reduceSub, Array.replicate_succ, Array.replicate_zero, List.push_toArray, List.append_toArray, List.nil_append, List.cons_append]
  gi_wp2
  refine bodyPost_ret (results_none rfl _ _ _) rfl ?_
  exact ⟨⟨_, rfl⟩, h0⟩

/-- an iterator's value that tells the sectors of l. -/
def TellsR (n n₀ : Nat) (l : List (Int × Int)) (v : Value) (w : World) : Prop :=
  ∃ B1 B2 : Nat, v = .func (.func 57) #[] #[.pointer (some ⟨B1, 0, none⟩), .pointer (some ⟨B2, 0, none⟩)] ∧
    SeqStopsK Fence.wide n Try.prog 57 #[.pointer (some ⟨B1, 0, none⟩), .pointer (some ⟨B2, 0, none⟩)] (fun k : Nat => #[Value.int .i64 ((k : Nat) : Int)]) (KpR n₀) (fun xs => xs = secsE l) (fun pre => pre <+: secsE l) (secsE l).length w

theorem tells_of (n : Nat) (hn : 1 ≤ n) (n₀ B1 B2 : Nat) (sv : Value) (l : List (Int × Int)) (hl : l.length ≤ 1000000) (r : Bool) (hr : r = true ↔ MayX 0 8192 l) (w : World) (h1 : w.cell? ⟨B1, 0, none⟩ = some (.bool r)) (l1 : B1 < w.heap.size)
    (h2 : w.cell? ⟨B2, 0, none⟩ = some sv) (l2 : B2 < w.heap.size) {lo hi : Nat} (hR : RunsIn w sv l lo hi) (hhi : hi ≤ n₀) (hn0 : n₀ ≤ w.heap.size) :
    TellsR n n₀ l (.func (.func 57) #[] #[.pointer (some ⟨B1, 0, none⟩), .pointer (some ⟨B2, 0, none⟩)]) w := by
  refine ⟨B1, B2, rfl, fun lp J Jx W hW hJ hJx hY h0 => ?_⟩
  have c1 := (hW.cell (p := ⟨B1, 0, none⟩) l1).trans h1
  have c2 := (hW.cell (p := ⟨B2, 0, none⟩) l2).trans h2
  cases r with
  | false =>
    have e : secsE l = [] := if_neg (fun h => by have := hr.2 h; cases this)
    exact (each0_in n lp B1 B2 J W c1 h0).mono fun e' W' ⟨he, hj⟩ => ⟨he, .inl ⟨[], e.symm, hj⟩⟩
  | true =>
    have hm := hr.1 rfl
    have e : secsE l = secsL l := if_pos hm
    rw [e] at hY ⊢
    exact each1_in n hn lp B1 B2 n₀ lo hi sv l hm hl J Jx W hJ hY c1 c2 (hR.belowR (hW.mono (Nat.le_refl _)) (by omega)) hhi (by have := hW.size; omega) h0

set_option maxRecDepth 100000 in
set_option maxHeartbeats 2000000 in
theorem bEach0 (n : Nat) (hn : 1 ≤ n) (n₀ : Nat) (v : Value) (l : List (Int × Int)) (lo hi : Nat) (w : World) (h : RunsIn w v l lo hi) (hl : l.length ≤ 1000000) (hwf : ∀ a ∈ l, WfRun a) (hhi : hi ≤ n₀) (hn0 : n₀ ≤ w.heap.size) :
    Calls Try.prog 29 #[v] w fun e w' => ∃ f, e = .returned f ∧ Kept [] w w' ∧ TellsR n n₀ l f w' := by
  have hmf : ∀ (fn : Fn) (first cap : Array Value) (w : World), (Instr.makeFunc fn first cap).run Try.prog w = .ok (.func fn first cap) w := fun _ _ _ _ => rfl
  have HM : ∀ W, Kept [] w W → Calls Try.prog 31 #[v, .int .i64 0, .int .i64 8192] W (MayXSays 0 8192 l W) := fun W k => xmay v l 0 8192 lo hi W (h.kept0 k) hl hwf (by omega) (by omega) (by omega) (by omega)
  have HW := Lib.hid h
  have k0 := (Kept.refl [] w).alloc (.cells #[v] 22)
  have o0 := Own.new w #[v] 22
  obtain ⟨p, c, rfl⟩ := h.shape
  clear h
  go_enter Try.func29, Try.ntmps29
  go_wp2_with fail
  refine (HM _ k0).mono ?_; rintro e w1 ⟨r, rfl, hr, k1⟩
  have HR := Lib.hid hr
  clear hr
  have o1 := k1.own o0 (by simp)
  have k01 := k0.trans k1
  go_wp2_with fail
  go_ret
  have HR' := HR.out
  have kA := k01.alloc (.cells #[.bool r] 4)
  have oA := Own.new w1 #[.bool r] 4
  have oB : Own (w1.alloc (.cells #[.bool r] 4)) w.heap.size #[.slice p l.length c] 22 := ((Kept.refl [] w1).alloc _).own o1 (by simp)
  have sz := kA.size
  exact ⟨_, rfl, kA, tells_of n hn n₀ w1.heap.size w.heap.size _ l hl r HR' _ (Boxed.cell (t := 4) oA) oA.lt (Boxed.cell (t := 22) oB) oB.lt (HW.out.kept0 kA) hhi (Nat.le_trans hn0 sz)⟩
theorem bEach (n : Nat) (hn : 1 ≤ n) (v : Value) (l : List (Int × Int)) (lo hi : Nat) (w : World) (h : RunsIn w v l lo hi) (hl : l.length ≤ 1000000) (hwf : ∀ a ∈ l, WfRun a) :
    Calls Try.prog 29 #[v] w fun e w' => ∃ f, e = .returned f ∧ Kept [] w w' ∧ TellsR n w.heap.size l f w' :=
  bEach0 n hn w.heap.size v l 0 w.heap.size w h.wide hl hwf (Nat.le_refl _) (Nat.le_refl _)
end Go.Proofs.Ytdnbddhjdokbfaa
