/- -/
import Derived.Test.YtdkimcnlhmhpgaaGreatG04
import Derived.Test.YtdkimcnlhmhpgaaGreatG07
import Derived.Test.YtdkimcnlhmhpgaaGreatG08
import Derived.Test.YtdkimcnlhmhpgaaGreatG12
import Derived.Deep.RegionWith
import Derived.BigRegion
import Derived.Lib.AppendStr
set_option linter.unusedVariables false
set_option linter.unusedSimpArgs false
namespace Go.Proofs.YtdkimcnlhmhpgaaGreat
open Go.RowKit
structure SB where
  seq : Nat
  sectors : Int
  journal : Int
  used : Int
  size : Int
  runs : List (Int × Int)
def SB.cells (s : SB) (v : Value) : Array Value := #[.int .u64 s.seq, .int .i64 s.sectors, .int .i64 s.journal, .int .i64 s.used, .int .i64 s.size, v]
def SB.numOk (s : SB) : Prop := 1 ≤ s.seq ∧ 4 ≤ s.sectors ∧ s.sectors ≤ 8192 ∧ 1 ≤ s.journal ∧ s.journal ≤ s.sectors - 2 ∧ 0 ≤ s.used ∧ s.used ≤ s.journal * 128 ∧ 0 ≤ s.size ∧ s.size ≤ 1048576 ∧ s.runs.length ≤ 16
def SB.may (s : SB) : Prop := s.numOk ∧ lies (2 + s.journal) s.sectors s.runs = true ∧ sumLen s.runs = need s.size
def SB.fits (s : SB) : Prop := s.seq < 18446744073709551616 ∧ (Lit.int .i64 s.sectors).wf = true ∧ (Lit.int .i64 s.journal).wf = true ∧ (Lit.int .i64 s.used).wf = true ∧ (Lit.int .i64 s.size).wf = true
theorem SB.num_cases (s : SB) : (¬ s.numOk ∧ ((s.seq < 1) ∨ (1 ≤ s.seq ∧ s.sectors < 4) ∨ (1 ≤ s.seq ∧ 4 ≤ s.sectors ∧ 8192 < s.sectors) ∨
    ((1 ≤ s.seq ∧ 4 ≤ s.sectors ∧ s.sectors ≤ 8192) ∧ ((s.journal < 1) ∨ (1 ≤ s.journal ∧ s.sectors - 2 < s.journal) ∨
    ((1 ≤ s.journal ∧ s.journal ≤ s.sectors - 2) ∧ ((s.used < 0) ∨ (0 ≤ s.used ∧ s.journal * 128 < s.used) ∨
    ((0 ≤ s.used ∧ s.used ≤ s.journal * 128) ∧ ((s.size < 0) ∨ (0 ≤ s.size ∧ 1048576 < s.size) ∨ (0 ≤ s.size ∧ s.size ≤ 1048576 ∧ 16 < s.runs.length))))))))) ∨
    (s.numOk ∧ 1 ≤ s.seq ∧ 4 ≤ s.sectors ∧ s.sectors ≤ 8192 ∧ 1 ≤ s.journal ∧ s.journal ≤ s.sectors - 2 ∧ 0 ≤ s.used ∧ s.used ≤ s.journal * 128 ∧ 0 ≤ s.size ∧ s.size ≤ 1048576 ∧ s.runs.length ≤ 16) := by
  by_cases h : s.numOk
  · exact Or.inr ⟨h, h⟩
  · refine Or.inl ⟨h, ?_⟩
    unfold SB.numOk at h
    omega
set_option maxRecDepth 100000 in
set_option maxHeartbeats 1600000 in
theorem pcheck_no (s : SB) (v : Value) (lo hi : Nat) (w : World) (h : RunsIn w v s.runs lo hi) (hno : ¬ s.numOk) (hl : s.runs.length ≤ 1000000) :
    Calls Tryz.prog 164 #[.agg (s.cells v)] w fun e w' => e = .returned (.int .i64 1) ∧ Kept [] w w' := by
  obtain ⟨p, c, rfl⟩ := h.shape
  have hc := s.num_cases
  obtain ⟨sq, a, b, u, z, l⟩ := s
  simp only [SB.cells] at *
  rcases hc with ⟨_, hc⟩ | ⟨hy, _⟩
  · clear h hno
    rcases hc with g1 | ⟨g1, g2⟩ | ⟨g1, g2, g3⟩ | ⟨⟨g1, g2, g3⟩, g4 | ⟨g4, g5⟩ | ⟨⟨g4, g5⟩, g6 | ⟨g6, g7⟩ | ⟨⟨g6, g7⟩, g8 | ⟨g8, g9⟩ | ⟨g8, g9, g10⟩⟩⟩⟩
    all_goals
      go_enter Tryz.func164, Tryz.ntmps164
      go_wp2_with fail
      go_ret
      exact ⟨rfl, (Kept.refl _ _).alloc _⟩
  · exact absurd hy hno
def CheckSays (s : SB) (w : World) (e : Ending) (w' : World) : Prop := ((s.may ∧ e = .returned (.int .i64 0)) ∨ (¬ s.may ∧ e = .returned (.int .i64 1))) ∧ Kept [] w w'
set_option maxRecDepth 100000 in
set_option maxHeartbeats 1600000 in
theorem pcheck (s : SB) (v : Value) (lo hi : Nat) (w : World) (h : RunsIn w v s.runs lo hi) (hl : s.runs.length ≤ 1000000) :
    Calls Tryz.prog 164 #[.agg (s.cells v)] w (CheckSays s w) := by
  by_cases hno : s.numOk
  · have hc := s.num_cases
    rcases hc with ⟨hy, _⟩ | ⟨_, g1, g2, g3, g4, g5, g6, g7, g8, g9, g10⟩
    · exact absurd hno hy
    · have hlie := fun w h => plie v s.runs lo hi (2 + s.journal) s.sectors w h hl (by omega) (by omega) (by omega) g3
      have hneed := fun w => pneed s.size w (by simp only [Lit.wf, Bool.and_eq_true, decide_eq_true_eq]; exact ⟨by show (-9223372036854775808 : Int) ≤ _; omega, by show _ ≤ (9223372036854775807 : Int); omega⟩)
      have hyes : lies (2 + s.journal) s.sectors s.runs = true → sumLen s.runs = need s.size → s.may := fun a b => ⟨hno, a, b⟩
      have hn1 : lies (2 + s.journal) s.sectors s.runs = false → ¬ s.may := fun a hm => by rw [hm.2.1] at a; cases a
      have hn2 : sumLen s.runs ≠ need s.size → ¬ s.may := fun a hm => a hm.2.2
      have HY := Lib.hid hyes
      have HN1 := Lib.hid hn1
      have HN2 := Lib.hid hn2
      obtain ⟨p, c, rfl⟩ := h.shape
      clear hyes hn1 hn2 hno
      unfold SB.cells
      generalize s.seq = sq at *
      generalize s.sectors = a at *
      generalize s.journal = b at *
      generalize s.used = u at *
      generalize s.size = z at *
      generalize s.runs = l at *
      have hk0 : ∀ w', Kept [] w w' → RunsIn w' (.slice p l.length c) l lo hi := fun w' hk => h.kept0 hk
      clear h
      have HK := Lib.hid hk0
      clear hk0
      go_enter Tryz.func164, Tryz.ntmps164
      have o := Own.new w #[.int .u64 (sq : Int), .int .i64 a, .int .i64 b, .int .i64 u, .int .i64 z, .slice p l.length c] 58
      go_wp2_with fail
      refine (hlie _ (HK.out _ ((Kept.refl _ _).alloc _))).mono ?_; rintro e w1 ⟨rfl, hk⟩
      have o1 := hk.own o (by simp)
      have c4 := o1.cell 4 (by simp)
      simp only [List.getElem_toArray, List.getElem_cons_succ, List.getElem_cons_zero] at c4
      cases hL : lies (2 + b) a l
      · have HX := Lib.hid (HN1.out hL)
        rw [if_neg (by simp)]
        clear hL hlie hneed
        go_wp2_with fail
        go_ret
        exact ⟨Or.inr ⟨HX.out, rfl⟩, ((Kept.refl _ _).alloc _).trans hk⟩
      · rw [if_pos rfl]
        by_cases hq : sumLen l = need z
        · have HX := Lib.hid (HY.out hL hq)
          have hq2 : (sumLen l == need z) = true := by simpa using hq
          clear hL hlie hq
          generalize sumLen l = m at *
          generalize need z = n at *
          go_wp2_with fail
          refine (hneed _).mono ?_; rintro e w2 ⟨rfl, rfl⟩
          go_wp2_with fail
          go_ret
          exact ⟨Or.inl ⟨HX.out, rfl⟩, ((Kept.refl _ _).alloc _).trans hk⟩
        · have HX := Lib.hid (HN2.out hq)
          have hq2 : (sumLen l == need z) = false := by simpa using hq
          clear hL hlie hq
          generalize sumLen l = m at *
          generalize need z = n at *
          go_wp2_with fail
          refine (hneed _).mono ?_; rintro e w2 ⟨rfl, rfl⟩
          go_wp2_with fail
          go_ret
          exact ⟨Or.inr ⟨HX.out, rfl⟩, ((Kept.refl _ _).alloc _).trans hk⟩
  · exact (pcheck_no s v lo hi w h hno hl).mono fun e w' hh => ⟨Or.inr ⟨fun hm => hno hm.1, hh.1⟩, hh.2⟩
def FitSays (l : List (Int × Int)) (n size : Int) (w : World) (e : Ending) (w' : World) : Prop := ∃ r, e = .returned (.bool r) ∧ (r = true ↔ FitX l n size) ∧ Kept [] w w'
theorem fitSays_no {l : List (Int × Int)} {n size : Int} {w w' : World} (h : ¬ FitX l n size) (k : Kept [] w w') : FitSays l n size w (.returned (.bool false)) w' := ⟨false, rfl, ⟨fun q => (by cases q), fun q => absurd q h⟩, k⟩
theorem fitSays_yes {l : List (Int × Int)} {n size : Int} {w w' : World} (h : FitX l n size) (k : Kept [] w w') : FitSays l n size w (.returned (.bool true)) w' := ⟨true, rfl, ⟨fun _ => h, fun _ => rfl⟩, k⟩
set_option maxRecDepth 100000 in
set_option maxHeartbeats 2000000 in
theorem bFit (v : Value) (l : List (Int × Int)) (n size : Int) (lo hi : Nat) (w : World) (h : RunsIn w v l lo hi) (hl : l.length ≤ 1000000) (hwf : ∀ a ∈ l, WfRun a) (hn : (Lit.int .i64 n).wf = true) (hs : (Lit.int .i64 size).wf = true) :
    Calls Tryz.prog 177 #[v, .int .i64 n, .int .i64 size] w (FitSays l n size w) := by
  have bn := bd64 hn
  have bz := bd64 hs
  obtain ⟨m, hm⟩ : ∃ m, min n 8192 = m := ⟨_, rfl⟩
  have HM : ∀ W, Kept [] w W → Calls Tryz.prog 178 #[v, .int .i64 0, .int .i64 m] W (MayXSays 0 m l W) := fun W k => xmay v l 0 m lo hi W (h.kept0 k) hl hwf (by omega) (by omega) (by omega) (by omega)
  have HC : ∀ W, Kept [] w W → Calls Tryz.prog 65 #[v] W fun e w' => e = .returned (.int .i64 (countL l)) ∧ Kept [] W w' := fun W k => xcount v l lo hi W (h.kept0 k) hl hwf
  have HN := fun W => pneed size W hs
  have hfx : FitX l n size ↔ (0 ≤ size ∧ l.length ≤ 16 ∧ MayX 0 m l ∧ (countL l : Int) = need size) := by rw [← hm]; rfl
  have HF := Lib.hid hfx
  obtain ⟨p, c, rfl⟩ := h.shape
  obtain ⟨N, hN⟩ : ∃ N : Int, (l.length : Int) = N := ⟨_, rfl⟩
  have hN16 : l.length ≤ 16 ↔ N ≤ 16 := by omega
  have HNI := Lib.hid hN16
  obtain ⟨C, hC⟩ : ∃ C : Int, (countL l : Int) = C := ⟨_, rfl⟩
  rw [hC] at HF
  have HC' : ∀ W, Kept [] w W → Calls Tryz.prog 65 #[.slice p l.length c] W fun e w' => e = .returned (.int .i64 C) ∧ Kept [] W w' := by rw [← hC]; exact HC
  generalize need size = q at *
  clear HC hfx hN16 h hl hwf hn hs hC
  by_cases h1 : 0 ≤ size
  · by_cases h2 : N ≤ 16
    · go_enter Tryz.func177, Tryz.ntmps177
      go_wp2_with fail
      refine (HM _ (Kept.refl _ _)).mono ?_; rintro e w1 ⟨r, rfl, hr, k1⟩
      have HR := Lib.hid hr
      clear hr
      cases r with
      | false =>
        go_wp2_with fail
        go_ret
        exact fitSays_no (fun hf => by have := HR.out.2 (HF.out.1 hf).2.2.1; cases this) k1
      | true =>
        go_wp2_with fail
        refine (HC' _ k1).mono ?_; rintro e w2 ⟨rfl, k2⟩
        have k12 := k1.trans k2
        go_wp2_with fail
        refine (HN _).mono ?_; rintro e w3 ⟨rfl, rfl⟩
        by_cases he : C = q
        · have e1 : (C == q) = true := by simp [he]
          have e2 : decide (C = q) = true := by simp [he]
          have HE := Lib.hid he
          clear he
          go_wp2_with fail
          go_ret
          exact fitSays_yes (HF.out.2 ⟨h1, HNI.out.2 h2, HR.out.1 (by simp), HE.out⟩) k12
        · have e1 : (C == q) = false := by simp [he]
          have e2 : decide (C = q) = false := by simp [he]
          have HE := Lib.hid he
          clear he
          go_wp2_with fail
          go_ret
          exact fitSays_no (fun hf => HE.out (HF.out.1 hf).2.2.2) k12
    · go_enter Tryz.func177, Tryz.ntmps177
      go_wp2_with fail
      go_ret
      exact fitSays_no (fun hf => by have := HNI.out.1 (HF.out.1 hf).2.1; omega) (Kept.refl _ _)
  · go_enter Tryz.func177, Tryz.ntmps177
    go_wp2_with fail
    go_ret
    exact fitSays_no (fun hf => by have := (HF.out.1 hf).1; omega) (Kept.refl _ _)
theorem getCode_no {d : DK} {l : List (Int × Int)} {size : Int} (h : ¬ FitX l d.stand.length size) : getCode d l size = 1 := if_neg h
theorem getCode_yes {d : DK} {l : List (Int × Int)} {size : Int} (h : FitX l d.stand.length size) : getCode d l size = if d.down = true then 90 else 0 := if_pos h
theorem wf_few {n : Nat} (h : n ≤ 100000000) : (Lit.int .i64 (n : Int)).wf = true := by
  simp only [Lit.wf, Bool.and_eq_true, decide_eq_true_eq]
  exact ⟨by show (-9223372036854775808 : Int) ≤ _; omega, by show _ ≤ (9223372036854775807 : Int); omega⟩
set_option maxRecDepth 100000 in
set_option maxHeartbeats 2000000 in
theorem bcheck {Inv : DK → World → Prop} {b : Nat} (hO : DOps Inv b) (d : DK) (v : Value) (l : List (Int × Int)) (size : Int) (lo hi : Nat) (w : World) (hI : Inv d w) (h : RunsIn w v l lo hi) (hl : l.length ≤ 1000000) (hwf : ∀ a ∈ l, WfRun a) (hs : (Lit.int .i64 size).wf = true) :
    Calls Tryz.prog 104 #[.pointer (some ⟨b, 0, none⟩), v, .int .i64 size] w fun e w' => e = .returned (.int .i64 (getCode d l size)) ∧ Kept [] w w' := by
  obtain ⟨n1, n2⟩ := hO.len hI
  have HL : ∀ W, Kept [] w W → Calls Tryz.prog 36 #[.pointer (some ⟨b, 0, none⟩)] W fun e w' => e = .returned (.int .i64 d.stand.length) ∧ W = w' := fun W k => hO.lenC (hO.keep hI k)
  have HD : ∀ W, Kept [] w W → Calls Tryz.prog 61 #[.pointer (some ⟨b, 0, none⟩)] W fun e w' => e = .returned (.bool d.down) ∧ W = w' := fun W k => hO.downC (hO.keep hI k)
  have HF : ∀ W, Kept [] w W → Calls Tryz.prog 177 #[v, .int .i64 d.stand.length, .int .i64 size] W (FitSays l d.stand.length size W) := fun W k => bFit v l _ size lo hi W (h.kept0 k) hl hwf (wf_few (by omega)) hs
  have HG0 := Lib.hid (@getCode_no d l size)
  have HG1 := Lib.hid (@getCode_yes d l size)
  clear h hl hwf hs
  generalize getCode d l size = G at *
  obtain ⟨N, hN⟩ : ∃ N : Int, (d.stand.length : Int) = N := ⟨_, rfl⟩
  have hN1 : 1 ≤ N := by omega
  have hN2 : N ≤ 8192 := by omega
  rw [hN] at HL HF HG0 HG1
  clear hN n1 n2
  generalize d.down = D at *
  have k0 := Kept.refl [] w
  go_enter Tryz.func104, Tryz.ntmps104
  go_wp2_with fail
  refine (HL _ k0).mono ?_; rintro e w1 ⟨rfl, rfl⟩
  go_wp2_with fail
  refine (HL _ k0).mono ?_; rintro e w1 ⟨rfl, rfl⟩
  go_wp2_with fail
  refine (HF _ k0).mono ?_; rintro e w1 ⟨r, rfl, hr, k1⟩
  have HR := Lib.hid hr
  clear hr
  cases r with
  | false =>
    go_wp2_with fail
    go_ret
    exact ⟨by rw [HG0.out (fun hf => by have := HR.out.2 hf; cases this)]; rfl, k1⟩
  | true =>
    go_wp2_with fail
    refine (HD _ k1).mono ?_; rintro e w2 ⟨rfl, rfl⟩
    cases D with
    | false =>
      go_wp2_with fail
      go_ret
      exact ⟨by rw [HG1.out (HR.out.1 (by simp))]; rfl, k1⟩
    | true =>
      go_wp2_with fail
      go_ret
      exact ⟨by rw [HG1.out (HR.out.1 (by simp))]; rfl, k1⟩
open Classical in
noncomputable def secsE (l : List (Int × Int)) : List Nat := if MayX 0 8192 l then secsL l else []
theorem secsL_le {l : List (Int × Int)} (h : MayX 0 8192 l) : (secsL l).length ≤ 8192 := by
  have h1 := count_may h (by omega)
  have h2 := secsL_len h.1
  have h3 : countL l ≤ 8192 := by
    unfold countL
    have : ∀ f k, cntF f k ≤ k := fun f k => by
      induction k with
      | zero => exact Nat.le_refl _
      | succ k ih => simp only [cntF]; split <;> omega
    exact this _ _
  omega
theorem secsE_le (l : List (Int × Int)) : (secsE l).length ≤ 8192 := by
  unfold secsE
  split
  · rename_i h; exact secsL_le h
  · exact Nat.zero_le _
theorem secsE_may {l : List (Int × Int)} (h : MayX 0 8192 l) : secsE l = secsL l := if_pos h
theorem secsE_fit {l : List (Int × Int)} {n size : Int} (h : FitX l n size) : secsE l = secsL l := secsE_may ⟨fun a ha => by
  have := h.2.2.1.1 a ha
  unfold OkX at this ⊢
  omega, h.2.2.1.2⟩
theorem infoInt : ∃ i, Tryz.prog.info? 3 = some i ∧ i.zero = some (.int .i64 0) ∧ i.size = 1 ∧ i.bytes = 8 := by
  have hi : (Tryz.prog.info? 3).map (fun i => (i.zero, i.size, i.bytes)) = some (some (.int .i64 0), 1, 8) := by kernel_rfl
  obtain ⟨i0, hi0, hz0, hz1, hz2⟩ := info_parts hi
  exact ⟨i0, hi0, hz0, hz1, hz2⟩
def intsV (l : List Nat) : List Value := l.map fun k => .int .i64 ((k : Nat) : Int)
end Go.Proofs.YtdkimcnlhmhpgaaGreat

/- -/
namespace Go.Proofs.YtdkimcnlhmhpgaaGreat
open Go.RowKit Go.Shelf
attribute [local go_sem] Oper.semAt_some
theorem RunsIn.wide {w : World} {v : Value} {l : List (Int × Int)} {lo hi : Nat} (h : RunsIn w v l lo hi) : RunsIn w v l 0 w.heap.size := by
  rcases h with h | ⟨b, off, c, h1, h2, h3, h4, h5, h6, h7, h8⟩
  · exact Or.inl h
  · exact Or.inr ⟨b, off, c, h1, h2, Nat.zero_le _, by omega, Nat.le_refl _, h6, h7, h8⟩
set_option maxRecDepth 100000 in
set_option maxHeartbeats 2000000 in
theorem each0_in (n : Nat) (l B1 B2 : Nat) (J : List Nat → World → Prop) (W : World) (hB1 : W.cell? ⟨B1, 0, none⟩ = some (.bool false)) (h0 : J [] W) :
    CallsIn Fence.wide n Tryz.prog 179 #[.func (.yield l) #[] #[], .pointer (some ⟨B1, 0, none⟩), .pointer (some ⟨B2, 0, none⟩)] W fun e W' => (∃ v, e = .returned v) ∧ J [] W' := by
  refine callsIn_of_wp Tryz.func179 rfl trivial ?_ rfl
  simp only [Tryz.ntmps179, List.size_toArray, List.length_cons, List.length_nil, Nat.reduceAdd, Nat.reduceSub, Array.replicate_succ, Array.replicate_zero, List.push_toArray, List.append_toArray, List.nil_append, List.cons_append]
  gi_wp2
  refine bodyPost_ret (results_none rfl _ _ _) rfl ?_
  exact ⟨⟨_, rfl⟩, h0⟩
def TellsR (n n₀ : Nat) (l : List (Int × Int)) (v : Value) (w : World) : Prop :=
  ∃ B1 B2 : Nat, v = .func (.func 179) #[] #[.pointer (some ⟨B1, 0, none⟩), .pointer (some ⟨B2, 0, none⟩)] ∧
    SeqStopsK Fence.wide n Tryz.prog 179 #[.pointer (some ⟨B1, 0, none⟩), .pointer (some ⟨B2, 0, none⟩)] (fun k : Nat => #[Value.int .i64 ((k : Nat) : Int)]) (KpR n₀) (fun xs => xs = secsE l) (fun pre => pre <+: secsE l) (secsE l).length w
theorem tells_of (n : Nat) (hn : 1 ≤ n) (n₀ B1 B2 : Nat) (sv : Value) (l : List (Int × Int)) (hl : l.length ≤ 1000000) (r : Bool) (hr : r = true ↔ MayX 0 8192 l) (w : World) (h1 : w.cell? ⟨B1, 0, none⟩ = some (.bool r)) (l1 : B1 < w.heap.size)
    (h2 : w.cell? ⟨B2, 0, none⟩ = some sv) (l2 : B2 < w.heap.size) {lo hi : Nat} (hR : RunsIn w sv l lo hi) (hhi : hi ≤ n₀) (hn0 : n₀ ≤ w.heap.size) :
    TellsR n n₀ l (.func (.func 179) #[] #[.pointer (some ⟨B1, 0, none⟩), .pointer (some ⟨B2, 0, none⟩)]) w := by
  refine ⟨B1, B2, rfl, fun lp J Jx W hW hJ hJx hY h0 => ?_⟩
  have c1 := (hW.cell (p := ⟨B1, 0, none⟩) l1).trans h1
  have c2 := (hW.cell (p := ⟨B2, 0, none⟩) l2).trans h2
  cases r with
  | false =>
    have e : secsE l = [] := if_neg (fun h => by have := hr.2 h; cases this)
    exact (each0_in n lp B1 B2 J W c1 h0).mono fun e' W' ⟨he, hj⟩ => ⟨he, .inl ⟨[], e.symm, hj⟩⟩
  | true =>
    have hm := hr.1 rfl
    have e : secsE l = secsL l := if_pos hm
    rw [e] at hY ⊢
    exact each1_in n hn lp B1 B2 n₀ lo hi sv l hm hl J Jx W hJ hY c1 c2 (hR.belowR (hW.mono (Nat.le_refl _)) (by omega)) hhi (by have := hW.size; omega) h0
set_option maxRecDepth 100000 in
set_option maxHeartbeats 2000000 in
theorem bEach0 (n : Nat) (hn : 1 ≤ n) (n₀ : Nat) (v : Value) (l : List (Int × Int)) (lo hi : Nat) (w : World) (h : RunsIn w v l lo hi) (hl : l.length ≤ 1000000) (hwf : ∀ a ∈ l, WfRun a) (hhi : hi ≤ n₀) (hn0 : n₀ ≤ w.heap.size) :
    Calls Tryz.prog 105 #[v] w fun e w' => ∃ f, e = .returned f ∧ Kept [] w w' ∧ TellsR n n₀ l f w' := by
  have hmf : ∀ (fn : Fn) (first cap : Array Value) (w : World), (Instr.makeFunc fn first cap).run Tryz.prog w = .ok (.func fn first cap) w := fun _ _ _ _ => rfl
  have HM : ∀ W, Kept [] w W → Calls Tryz.prog 178 #[v, .int .i64 0, .int .i64 8192] W (MayXSays 0 8192 l W) := fun W k => xmay v l 0 8192 lo hi W (h.kept0 k) hl hwf (by omega) (by omega) (by omega) (by omega)
  have HW := Lib.hid h
  have k0 := (Kept.refl [] w).alloc (.cells #[v] 56)
  have o0 := Own.new w #[v] 56
  obtain ⟨p, c, rfl⟩ := h.shape
  clear h
  go_enter Tryz.func105, Tryz.ntmps105
  go_wp2_with fail
  refine (HM _ k0).mono ?_; rintro e w1 ⟨r, rfl, hr, k1⟩
  have HR := Lib.hid hr
  clear hr
  have o1 := k1.own o0 (by simp)
  have k01 := k0.trans k1
  go_wp2_with fail
  go_ret
  have HR' := HR.out
  have kA := k01.alloc (.cells #[.bool r] 4)
  have oA := Own.new w1 #[.bool r] 4
  have oB : Own (w1.alloc (.cells #[.bool r] 4)) w.heap.size #[.slice p l.length c] 56 := ((Kept.refl [] w1).alloc _).own o1 (by simp)
  have sz := kA.size
  exact ⟨_, rfl, kA, tells_of n hn n₀ w1.heap.size w.heap.size _ l hl r HR' _ (Boxed.cell (t := 4) oA) oA.lt (Boxed.cell (t := 56) oB) oB.lt (HW.out.kept0 kA) hhi (Nat.le_trans hn0 sz)⟩
attribute [local go_sem] Oper.semAt_some
theorem kpr_append {W w1 : World} {n₀ B base size k : Nat} {t e : TypeId} {v v' : Value} {xs : List Value} {tmp : Obj} (hv : Boxed W B t v) (ht : t ≠ 128) (hrow : W.ownsRow base e size v k xs) (he : e ≠ 128)
    (hgrow : (W.alloc tmp).grownBy w1 v.ownBlock) (hb : Below n₀ W (w1.setCell ⟨B, 0, none⟩ v')) : KpR n₀ W (w1.setCell ⟨B, 0, none⟩ v') := by
  refine ⟨hb, fun i cs f hk => ?_⟩
  have hlt : i < W.heap.size := (Array.getElem?_eq_some_iff.1 hk).1
  have h1 : i ≠ B := fun e' => by
    subst e'
    rw [show W.heap[i]? = _ from hv] at hk
    injection hk with hk
    injection hk with _ ht'
    exact ht ht'
  have h2 : some i ≠ v.ownBlock := by
    rcases hrow.2 with ⟨rfl, _⟩ | ⟨g, cap, cur, rfl, _, hgb, _⟩
    · simp [Value.ownBlock]
    · intro e'
      obtain rfl : i = g := by simpa [Value.ownBlock] using e'
      rw [hgb] at hk
      injection hk with hk
      injection hk with _ he'
      exact he he'
  exact (Below.heap_setCell _ _ _ _ h1).trans ((hgrow.block i (by simp; omega) h2).trans ((Below.heap_alloc _ _ _ hlt).trans hk))
theorem retM {n : Nat} {P : Program} {fn : Func} {R : Ending → World → Prop} {tmps : Array Value} {w : World} {v : Value} (hv : (results fn tmps).run P w = .ok v w) (h : R (.returned v) w) :
    bodyPostM Fence.wide n P fn R .ret { tmps := tmps, defers := [] } w := ⟨v, hv, h⟩
theorem retMD {n : Nat} {P : Program} {fn : Func} {R : Ending → World → Prop} {tmps : Array Value} {w : World} {v : Value} {D : Nat} (hK : w.heap[D]? = some (.deferred (some []))) (hv : (results fn tmps).run P (w.putObj D (.deferred none)) = .ok v (w.putObj D (.deferred none))) (h : R (.returned v) (w.putObj D (.deferred none))) :
    bodyPostM Fence.wide n P fn R .ret { tmps := tmps, defers := [{ target := .collected D, args := #[] }] } w := ⟨by simp, .inl ⟨_, _, rfl, run_takeDeferred hK, v, hv, h⟩⟩
theorem kept_putObj (w : World) (D : Nat) (o : Obj) : Kept [D] w (w.putObj D o) :=
  (Kept.refl [D] w).grown (grownBy_putObj' w D o) (fun k hk => by injection hk with hk; exact Or.inl (by simp [hk]))
theorem kept_below {B : Nat} {w w2 W : World} (k : Kept [] w w2) (h : Below B w2 W) (hB : w.heap.size ≤ B) : Kept [] w W :=
  ⟨h.os.trans k.os, h.tape.trans k.tape, h.output.trans k.output, Nat.le_trans k.size h.size, fun j hj _ => (h.block j (by omega)).trans (k.block j hj (by simp))⟩
theorem rowpos_shape {W : World} {base : Nat} {e : TypeId} {size : Nat} {v : Value} {k : Nat} {xs : List Value} (h : W.ownsRow base e size v k xs) (hk : 0 < k) : ∃ g cap, v = .slice (some ⟨g, 0, none⟩) k cap := by
  rcases h.2 with ⟨_, h0⟩ | ⟨g, cap, _, rfl, _⟩
  · omega
  · exact ⟨g, cap, rfl⟩
theorem addr_add (g k : Nat) : (⟨g, 0, none⟩ : Addr).add k = ⟨g, k, none⟩ := by
  unfold Addr.add
  by_cases h : k = 0
  · subst h; rfl
  · simp [h]
theorem strCells_append (a b : List UInt8) : Lib.strCells (bs (a ++ b)) = Lib.strCells (bs a) ++ Lib.strCells (bs b) := by simp [Lib.strCells, bs]
theorem wpListIn_append_own_string {F : Fence} {n' : Nat} {P : Program} {ops : Array Oper} {rest : List Oper} {o : Oper} {a : Act} {Q : Exit → Act → World → Prop} (w : World) (hgd : o.guard = none) (sl x : Operand) (t u : TypeId)
    (ho : o.op = .call { callee := .builtin .append, args := #[sl, x], argTypes := #[t, u] })
    (base : Nat) (e : TypeId) (i : TypeInfo) (ht : P.underlying t = some (.slice e)) (hu : P.underlying u = some .string) (hi : P.info? e = some i) (hz : i.zero = some (.int .u8 0))
    (hsize : i.size = 1) (hby : i.bytes = 1)
    (v : Value) (n : Nat) (xs : List Value) (hs : a.eval sl = v) (hown : w.ownsRow base e 1 v n xs) (s : ByteArray) (hx : a.eval x = .string s)
    (h63 : n + s.size ≤ maxLen) (hbytes : n + s.size ≤ 140737488355328) (hbase : base ≤ w.heap.size)
    (h : ∀ v' w', w'.ownsRow base e 1 v' (n + s.size) (xs ++ Lib.strCells s) → w.grownBy w' v.ownBlock → (v' = .slice none 0 0 ↔ v = .slice none 0 0 ∧ s.size = 0) → wpListIn F n' P ops Q rest (a.put o.dst v') w') : wpListIn F n' P ops Q (o :: rest) a w := by
  refine wpListIn_plain hgd fun K hK => ?_
  obtain ⟨v', w', hr, h2, h3, h4⟩ := Lib.run_append_own_string (P := P) w base t u o.type e i ht hu hi hz hsize hby v n xs hown s h63 hbytes hbase
  unfold Oper.wpIn
  refine ⟨?_, ?_⟩
  · simp [Oper.about, ho, resolve, Target.leads, Sem.run_pure]
  · rw [Oper.semAt_plain F _ _ (by rw [ho]; intro c hc'; cases hc')]
    simp [execOp, ho, resolve, invoke, builtin, hs, hx, hr, Result.andThen]
    exact hK _ _ (h v' w' h2 h3 h4)
theorem Boxed.appended0 {W w1 : World} {n₀ B : Nat} {t e : TypeId} {size : Nat} {v v' : Value} {k m : Nat} {xs ys : List Value}
    (hv : Boxed W B t v) (hte : t ≠ e) (hrow : W.ownsRow n₀ e size v k xs) (hn₀ : n₀ ≤ W.heap.size) (hB : n₀ ≤ B)
    (hown' : w1.ownsRow n₀ e size v' m ys) (hgrow : W.grownBy w1 v.ownBlock) :
    Boxed w1 B t v ∧ Boxed (w1.setCell ⟨B, 0, none⟩ v') B t v' ∧ (w1.setCell ⟨B, 0, none⟩ v').ownsRow n₀ e size v' m ys ∧ KeepsOthers W (w1.setCell ⟨B, 0, none⟩ v') ∧ Below n₀ W (w1.setCell ⟨B, 0, none⟩ v') := by
  have hv1 : Boxed w1 B t v := hv.kept hgrow (hv.not_row hte hrow)
  refine ⟨hv1, hv1.set v', hown'.kept (grownBy_setCell' w1 B v') (.inr (hv1.not_row hte hown').symm), ?_, ?_⟩
  · refine (KeepsOthers.of_grownBy hgrow fun j o ej hj => ?_).trans (KeepsOthers.setCell _ _ _)
    rcases hrow.2 with ⟨rfl, _⟩ | ⟨g, cap, cur, rfl, _, hgb, _⟩
    · simp [Value.ownBlock] at ej
    · obtain rfl : g = j := by simpa [Value.ownBlock] using ej
      rw [hgb] at hj; cases hj; rfl
  · refine ((Below.refl n₀ W).grown hgrow hn₀ fun j ej => ?_).setCell (p := ⟨B, 0, none⟩) hB v'
    rcases hrow.2 with ⟨rfl, _⟩ | ⟨g, cap, cur, rfl, hb, _, _⟩
    · simp [Value.ownBlock] at ej
    · obtain rfl : g = j := by simpa [Value.ownBlock] using ej
      exact hb
theorem kpr_append0 {W w1 : World} {n₀ B base size k : Nat} {t e : TypeId} {v v' : Value} {xs : List Value} (hv : Boxed W B t v) (ht : t ≠ 128) (hrow : W.ownsRow base e size v k xs) (he : e ≠ 128)
    (hgrow : W.grownBy w1 v.ownBlock) (hb : Below n₀ W (w1.setCell ⟨B, 0, none⟩ v')) : KpR n₀ W (w1.setCell ⟨B, 0, none⟩ v') := by
  refine ⟨hb, fun i cs f hk => ?_⟩
  have hlt : i < W.heap.size := (Array.getElem?_eq_some_iff.1 hk).1
  have h1 : i ≠ B := fun e' => by
    subst e'
    rw [show W.heap[i]? = _ from hv] at hk
    injection hk with hk
    injection hk with _ ht'
    exact ht ht'
  have h2 : some i ≠ v.ownBlock := by
    rcases hrow.2 with ⟨rfl, _⟩ | ⟨g, cap, cur, rfl, _, hgb, _⟩
    · simp [Value.ownBlock]
    · intro e'
      obtain rfl : i = g := by simpa [Value.ownBlock] using e'
      rw [hgb] at hk
      injection hk with hk
      injection hk with _ he'
      exact he he'
  exact (Below.heap_setCell _ _ _ _ h1).trans ((hgrow.block i hlt h2).trans hk)
end Go.Proofs.YtdkimcnlhmhpgaaGreat

/- -/
namespace Go.Proofs.YtdkimcnlhmhpgaaGreat
open Go.RowKit
def AsideW (lim : Nat) (w w' : World) : Prop :=
  w.heap.size ≤ w'.heap.size ∧ ∀ g o, lim ≤ g → w.heap[g]? = some o → (∀ cs f, o ≠ .cells cs 206 f) → w'.heap[g]? = some o
theorem AsideW.refl (lim : Nat) (w : World) : AsideW lim w w := ⟨Nat.le_refl _, fun _ _ _ h _ => h⟩
theorem AsideW.trans {lim : Nat} {a b c : World} (h : AsideW lim a b) (k : AsideW lim b c) : AsideW lim a c :=
  ⟨Nat.le_trans h.1 k.1, fun g o hg ho ht => k.2 g o hg (h.2 g o hg ho ht) ht⟩
theorem AsideW.mono {lim lim' : Nat} {a b : World} (h : AsideW lim a b) (hl : lim ≤ lim') : AsideW lim' a b := ⟨h.1, fun g o hg ho ht => h.2 g o (by omega) ho ht⟩
theorem Kept.asideW {w w' : World} (k : Kept [] w w') (lim : Nat) : AsideW lim w w' := ⟨k.size, fun g o _ ho _ => by
  rw [k.block g (Array.getElem?_eq_some_iff.1 ho).1 (by simp)]; exact ho⟩
theorem BKept.asideW {b sb mb lo r lim : Nat} {w w' : World} (k : BKept b sb mb lo r w w') (h1 : b < lim) (h2 : sb < lim) (h3 : mb < lim) (h4 : r < lim) : AsideW lim w w' :=
  ⟨k.2.2.2.1, fun g o hg ho ht => by
    have hlt := (Array.getElem?_eq_some_iff.1 ho).1
    rw [k.2.2.2.2 g hlt (by omega) (by omega) (by omega) (by omega) (Or.inr (fun cs f hc => by
      rw [ho] at hc
      injection hc with hc
      exact ht cs f hc))]
    exact ho⟩
theorem AsideW.own {lim : Nat} {w w' : World} {g : Nat} {cs : Array Value} {t : TypeId} (k : AsideW lim w w') (o : Own w g cs t) (hg : lim ≤ g) (ht : t ≠ 206) : Own w' g cs t :=
  k.2 g _ hg o (fun cs' f e => by injection e with _ e; exact ht e)
theorem AsideW.row {lim : Nat} {w w' : World} {base : Nat} {e : TypeId} {size : Nat} {v : Value} {n : Nat} {xs : List Value} (k : AsideW lim w w') (h : w.ownsRow base e size v n xs) (hb : lim ≤ base) (ht : e ≠ 206) : w'.ownsRow base e size v n xs :=
  ownsRow_same h (fun g cs hg hc => by
    have := k.2 g _ (by omega) hc (fun cs' f e' => by injection e' with _ e'; exact ht e')
    rw [this, hc])
theorem AsideW.obj {lim : Nat} {w w' : World} {D : Nat} {o : Obj} (k : AsideW lim w w') (h : w.heap[D]? = some o) (hD : lim ≤ D) (ho : ∀ cs t f, o ≠ .cells cs t f) : w'.heap[D]? = some o :=
  k.2 D o hD h (fun cs f => ho cs _ f)
theorem DiskAt.putD {w w' : World} {D b sb mb dlo : Nat} {x : Option (List Deferred)} {e : DK} (hD : DiskAt w b sb mb dlo e) (ho : w.heap[D]? = some (.deferred x)) (k : Kept [D] w w') : DiskAt w' b sb mb dlo e := by
  obtain ⟨wv2, n, ob, os, hw, hm, hn, g2, g3, g4, g5, g6, g7⟩ := hD
  have ne : ∀ g cs t, w.heap[g]? = some (.cells cs t (0, 0)) → g ∉ [D] := by
    intro g cs t hc hx
    have hx : g = D := by simpa using hx
    subst hx
    rw [ho] at hc
    cases hc
  refine ⟨wv2, n, k.own ob (ne b _ _ ob), k.own os (ne sb _ _ os), ownsRow_keptT hw k (fun g hg _ cs hc => ne g _ _ hc hg), hm.kept k ?_, hn, g2, g3, g4, g5, Nat.le_trans g6 k.size, g7⟩
  intro hx
  have hx : mb = D := by simpa using hx
  subst hx
  obtain ⟨D, ⟨es, clock, hh, _⟩, _⟩ := hm
  rw [hh] at ho
  cases ho
theorem RAt.putD {w w' : World} {D r lo : Nat} {x : Option (List Deferred)} {d : DK} (h : RAt w r lo d) (ho : w.heap[D]? = some (.deferred x)) (k : Kept [D] w w') : RAt w' r lo d := by
  obtain ⟨sv, wv, o, hsr, hwr, h1, h2, r3⟩ := h
  have ne : ∀ g cs t, w.heap[g]? = some (.cells cs t (0, 0)) → g ∉ [D] := by
    intro g cs t hc hx
    have hx : g = D := by simpa using hx
    subst hx
    rw [ho] at hc
    cases hc
  exact ⟨sv, wv, k.own o (ne r _ _ o), ownsRow_keptT hsr k (fun g hg _ cs hc => ne g _ _ hc hg), ownsRow_keptT hwr k (fun g hg _ cs hc => ne g _ _ hc hg), Nat.le_trans h1 k.size, h2, r3⟩
theorem Alone.putD {W0 w w' : World} {b sb mb lo D lim : Nat} {x : Option (List Deferred)} {d : DK} (h : Alone W0 w b sb mb lo d) (hb : b < lim) (ho : w.heap[D]? = some (.deferred x)) (k : Kept [D] w w') (hl : lim ≤ D) : Alone W0 w' b sb mb lo d :=
  ⟨h.disk.putD ho k, h.kept.call k (fun y hy => Or.inr (by have hy : y = D := by simpa using hy
                                                           have := h.hb; omega)), h.hb, h.hsb, h.hmb, h.hlo, h.fit⟩
theorem Both.putD {W0 w w' : World} {b sb mb lo r rlo D lim : Nat} {x : Option (List Deferred)} {d rd : DK} (h : Both W0 w b sb mb lo r rlo d rd) (hb : b < lim) (ho : w.heap[D]? = some (.deferred x)) (k : Kept [D] w w') (hl : lim ≤ D) : Both W0 w' b sb mb lo r rlo d rd :=
  ⟨h.alone.putD hb ho k hl, h.ref.putD ho k, h.hr, h.hsr, h.rfit⟩
structure BOps (Inv : DK → World → Prop) (b lim : Nat) : Prop where
  ops : DOps Inv b
  writeB : ∀ {d w} (i : Int) (s : List UInt8), Inv d w → d.ops < 100000 → d.waits.length ≤ 10000 → Calls Tryz.prog 88 #[.pointer (some ⟨b, 0, none⟩), .int .i64 i, .string (bs s)] w fun e w' => e = .returned (.int .i64 (wCode d i s)) ∧ Inv (wNext d i s) w' ∧ AsideW lim w w'
  putD : ∀ {d w w' D x}, Inv d w → w.heap[D]? = some (.deferred x) → Kept [D] w w' → lim ≤ D → Inv d w'
end Go.Proofs.YtdkimcnlhmhpgaaGreat
