/- Layer 10 (extent): ExtentMaps's walk. -/
import Derived.Test.YtmljbmhalpdpmaaE29
import Derived.Test.YtmljbmhalpdpmaaE30
import Derived.Deep.CutRange
import Derived.Deep.CutBlock
import Derived.Deep.DeepCutAuto
namespace Go.Proofs.Ytmljbmhalpdpmaa
open Go.RowKit
set_option linter.unusedVariables false
set_option linter.unusedSimpArgs false

set_option maxRecDepth 100000 in
theorem mnew_bad (f s : Int) (w : World) (h : f < 0 ∨ s < f ∨ 8192 < s) :
    Calls Try.prog 33 #[.int .i64 f, .int .i64 s] w fun e w' => e = .returned (.tuple #[.pointer none, .int .i64 5]) ∧ w = w' := by
  rcases (by omega : f < 0 ∨ (0 ≤ f ∧ s < f) ∨ (0 ≤ f ∧ f ≤ s ∧ 8192 < s)) with h | ⟨h, h2⟩ | ⟨h, h2, h3⟩
  all_goals
    go_enter Try.func33, Try.ntmps33
    go_wp2_with fail
    go_ret2
    exact ⟨rfl, rfl⟩
/-- what a round of calls leaves. -/
theorem ToldRel.next {w0 wx : World} {b g : Nat} {f s : Int} {gx : Nat} {T : List (Int × Int)} {vT v10 : Value} {tk : List (Value × List (Int × Int))} {u v : Value} {L : List (Int × Int)} (h : ToldRel w0 b g f s gx T vT v10 tk u v L wx) :
    MapsRel w0 b g f s T vT v10 tk (((wx.setCell ⟨g, 0, none⟩ (.int .i64 f)).setCell ⟨g, 1, none⟩ (.int .i64 s)).setCell ⟨g, 2, none⟩ vT) := by
  obtain ⟨vO, ho⟩ := h.ref
  have hA : Aside w0 wx [g] := Aside.one ho h.hg (by decide) (by decide)
  have hk : Kept [g] wx (((wx.setCell ⟨g, 0, none⟩ (.int .i64 f)).setCell ⟨g, 1, none⟩ (.int .i64 s)).setCell ⟨g, 2, none⟩ vT) := (Kept.refl _ _).set3 (Or.inl (by simp)) _ _ _
  exact ⟨h.map.kept hk (by simpa using h.ne) hA.noRuns, ho.set3 _ _ _, h.row.kept hk hA.noRuns, h.pl, h.win, h.took.step hk hA, h.hb, h.hg, h.ne⟩
theorem MapsRel.step0 {w0 wr wx : World} {b g : Nat} {f s : Int} {T : List (Int × Int)} {vT v10 : Value} {tk : List (Value × List (Int × Int))} (h : MapsRel w0 b g f s T vT v10 tk wr) (k : Kept [] wr wx) : MapsRel w0 b g f s T vT v10 tk wx :=
  ⟨h.map.kept0 k, k.own h.ref (by simp), h.row.kept0 k, h.pl, h.win, h.took.step0 k, h.hb, h.hg, h.ne⟩
theorem told_none {w0 wx : World} {b g : Nat} {f s : Int} {gx : Nat} {T : List (Int × Int)} {vT v10 : Value} {tk : List (Value × List (Int × Int))} (map : MapAt wx b f s (freeL f s T)) (ref : ∃ vO, Own wx g #[.int .i64 f, .int .i64 s, vO] 44) (new : Own wx gx #[.int .i64 f, .int .i64 s, vT] 44) (row : RunsRow wx vT T) (pl : Pl 0 T) (win : Within f s T) (took : Took w0 v10 tk wx) (hb : w0.heap.size ≤ b) (hg : w0.heap.size ≤ g) (hx : w0.heap.size ≤ gx) (ne : b ≠ g) (nex : gx ≠ g) (nex2 : gx ≠ b) :
    ToldRel w0 b g f s gx T vT v10 tk (.slice none 0 0) (.slice none 0 0) [] wx :=
  ⟨map, ref, new, row, pl, win, took, RunsRow.none _ 0, RunsRow.none _ 0, trivial, hb, hg, hx, ne, nex, nex2⟩
theorem mtakeG {w : World} {b : Nat} {f s : Int} {F : List (Int × Int)} (h : MapAt w b f s F) (n : Int) (hn1 : -9223372036854775808 ≤ n) (hn2 : n ≤ 9223372036854775807) {C : Int} {L F1 : List (Int × Int)} (h1 : lowCode F n = C) (h2 : lowRes F n = L) (h3 : takeF F n = F1) :
    Calls Try.prog 28 #[.pointer (some ⟨b, 0, none⟩), .int .i64 n] w fun e w' => (∃ v, e = .returned (.tuple #[v, .int .i64 C]) ∧ RunsRow w' v L) ∧ MapAt w' b f s F1 ∧ Kept [b] w w' := by
  subst h1 h2 h3
  exact (mtake h n hn1 hn2).mono fun e w' ⟨v, g1, g2, g3, g4⟩ => ⟨⟨v, g1, g2⟩, g3, g4⟩
theorem ztakeG (f s : Int) (v : Value) (T : List (Int × Int)) (n : Int) (w : World) (h : RunsRow w v T) (hpT : Pl 0 T) (f1 : 0 ≤ f) (fs : f ≤ s) (s2 : s ≤ 8192) (hn1 : -9223372036854775808 ≤ n) (hn2 : n ≤ 9223372036854775807) {C : Int} {L T' : List (Int × Int)} (h1 : lowCode (freeL f s T) n = C) (h2 : lowRes (freeL f s T) n = L) (h3 : takeT f s T n = T') :
    Calls Try.prog 34 #[.agg #[.int .i64 f, .int .i64 s, v], .int .i64 n] w fun e w' => (∃ v u, e = .returned (.tuple #[.agg #[.int .i64 f, .int .i64 s, v], u, .int .i64 C]) ∧ RunsRow w' v T' ∧ RunsRow w' u L) ∧ Kept [] w w' := by
  subst h1 h2 h3
  exact (ztake f s v T n w h hpT f1 fs s2 hn1 hn2).mono fun e w' ⟨v, u, g1, g2, g3, g4⟩ => ⟨⟨v, u, g1, g2, g3⟩, g4⟩
theorem MapAt.aside {w0 w : World} {b : Nat} {f s : Int} {F : List (Int × Int)} (h : MapAt w b f s F) (hb : w0.heap.size ≤ b) : Aside w0 w [b] := by
  obtain ⟨vv, om, _⟩ := h.cells
  exact Aside.one om hb (by decide) (by decide)
theorem infoRuns : ∃ i, Try.prog.info? 22 = some i ∧ i.zero = some (.slice none 0 0) ∧ i.size = 1 ∧ i.bytes = 24 := by
  have hi : (Try.prog.info? 22).map (fun i => (i.zero, i.size, i.bytes)) = some (some (.slice none 0 0), 1, 24) := by kernel_rfl
  obtain ⟨i0, hi0, hz0, hz1, hz2⟩ := info_parts hi
  exact ⟨i0, hi0, hz0, hz1, hz2⟩
/-- another list was taken. -/
theorem Took.more {w0 wr wx : World} {v10 v10' u : Value} {tk : List (Value × List (Int × Int))} {L : List (Int × Int)} (h : Took w0 v10 tk wr) (hu : RunsRow wr u L) (hp : Pl 0 L) (hg : wr.grownBy wx v10.ownBlock) (hr : wx.ownsRow w0.heap.size 22 1 v10' (tk.length + 1) (tk.map (fun x => x.1) ++ [u])) (h0 : Kept [] w0 wx) : Took w0 v10' (tk ++ [(u, L)]) wx := by
  have hk : ∀ (v : Value) (l : List (Int × Int)), RunsRow wr v l → RunsRow wx v l := fun v l ⟨base, r⟩ => ⟨base, ownsRow_same r (fun g cs _ hc => by
    refine hg.block g (lt_of_block hc) (fun e => ?_)
    obtain ⟨_, ⟨rfl, _⟩ | ⟨g', cap, cur, rfl, _, hg', _⟩⟩ := h.row
    · simp [Value.ownBlock] at e
    · have e : g' = g := by simpa [Value.ownBlock] using e.symm
      subst e
      rw [hc] at hg'
      injection hg' with hg'
      injection hg' with _ ht
      exact absurd ht (by decide))⟩
  refine ⟨by simpa using hr, fun x hx => ?_, h0⟩
  rcases List.mem_append.1 hx with hx | hx
  · exact ⟨hk _ _ (h.each x hx).1, (h.each x hx).2⟩
  · have hx : x = (u, L) := by simpa using hx
    subst hx
    exact ⟨hk _ _ hu, hp⟩
/-- the map and what goes with it behind a block that grew. -/
theorem MapAt.grown {w wx : World} {b : Nat} {f s : Int} {F : List (Int × Int)} {v10 : Value} {base n : Nat} {xs : List Value} (h : MapAt w b f s F) (hr : w.ownsRow base 22 1 v10 n xs) (hg : w.grownBy wx v10.ownBlock) : MapAt wx b f s F := by
  have key : ∀ (g : Nat) (cs : Array Value) (t : TypeId), t ≠ 22 → w.heap[g]? = some (.cells cs t (0, 0)) → wx.heap[g]? = w.heap[g]? := fun g cs t ht hc => by
    refine hg.block g (lt_of_block hc) (fun e => ?_)
    obtain ⟨_, ⟨rfl, _⟩ | ⟨g', cap, cur, rfl, _, hg', _⟩⟩ := hr
    · simp [Value.ownBlock] at e
    · have e : g' = g := by simpa [Value.ownBlock] using e.symm
      subst e
      rw [hc] at hg'
      injection hg' with hg'
      injection hg' with _ ht2
      exact ht ht2
  obtain ⟨v, o, ⟨base', r⟩⟩ := h.cells
  exact ⟨⟨v, (key b _ _ (by decide) o).trans o, ⟨base', ownsRow_same r (fun g cs _ hc => key g cs _ (by decide) hc)⟩⟩, h.pl⟩
theorem own_grown {w wx : World} {g : Nat} {cs : Array Value} {t : TypeId} {v10 : Value} {base n : Nat} {xs : List Value} (o : Own w g cs t) (ht : t ≠ 22) (hr : w.ownsRow base 22 1 v10 n xs) (hg : w.grownBy wx v10.ownBlock) : Own wx g cs t := by
  have o' : w.heap[g]? = some (.cells cs t (0, 0)) := o
  refine (hg.block g (lt_of_block o') (fun e => ?_)).trans o
  obtain ⟨_, ⟨rfl, _⟩ | ⟨g', cap, cur, rfl, _, hg', _⟩⟩ := hr
  · simp [Value.ownBlock] at e
  · have e : g' = g := by simpa [Value.ownBlock] using e.symm
    subst e
    rw [o'] at hg'
    injection hg' with hg'
    injection hg' with _ ht2
    exact ht ht2
theorem runs_grown {w wx : World} {v : Value} {l : List (Int × Int)} {v10 : Value} {base n : Nat} {xs : List Value} (h : RunsRow w v l) (hr : w.ownsRow base 22 1 v10 n xs) (hg : w.grownBy wx v10.ownBlock) : RunsRow wx v l := by
  obtain ⟨b', r⟩ := h
  refine ⟨b', ownsRow_same r (fun g cs _ hc => ?_)⟩
  exact (own_grown (o := hc) (by decide) hr hg).trans (Eq.symm hc)
set_option maxRecDepth 100000 in
set_option maxHeartbeats 8000000 in
theorem mapsLaw (f s : Int) (v : Value) (acts : List XAct) (w : World) (hf : (Lit.int .i64 f).wf = true) (hs : (Lit.int .i64 s).wf = true) (h : XActsIn w v acts 0 w.heap.size) :
    Calls Try.prog 7 #[.int .i64 f, .int .i64 s, v] w fun e w' => e = .returned (.bool true) ∧ Below w.heap.size w w' := by
  have bd : ∀ n : Int, (Lit.int .i64 n).wf = true → -9223372036854775808 ≤ n ∧ n ≤ 9223372036854775807 := fun n hn => by
    simp only [Lit.wf, Bool.and_eq_true, decide_eq_true_eq] at hn
    exact ⟨by have := hn.1; exact this, by have := hn.2; exact this⟩
  have bd8 : ∀ n : Int, (Lit.int .u8 n).wf = true → 0 ≤ n ∧ n ≤ 255 := fun n hn => by
    simp only [Lit.wf, Bool.and_eq_true, decide_eq_true_eq] at hn
    exact ⟨by have := hn.1; exact this, by have := hn.2; exact this⟩
  obtain ⟨f1, f2⟩ := bd _ hf
  obtain ⟨s1, s2⟩ := bd _ hs
  obtain ⟨p, c, rfl⟩ := RowsOf.shape h
  have hal := RowsOf.len h
  unfold maxLen at hal
  have BD := Lib.hid bd
  have BD8 := Lib.hid bd8
  have HA := Lib.hid h
  clear hf hs h bd bd8
  have hal' : (acts.length : Int) ≤ 9223372036854775807 := by omega
  by_cases hbad : f < 0 ∨ s < f ∨ 8192 < s
  · have hn := mnew_bad f s w hbad
    have HN := Lib.hid hn
    clear hn
    rcases (by omega : f < 0 ∨ (0 ≤ f ∧ s < f) ∨ (0 ≤ f ∧ f ≤ s ∧ 8192 < s)) with h | ⟨h, h2⟩ | ⟨h, h2, h3⟩
    all_goals
      clear hbad
      go_enter Try.func7, Try.ntmps7
      go_wp2_with fail
      refine HN.out.mono ?_; rintro e w' ⟨rfl, rfl⟩
      go_wp2_with fail
      refine (xawake _).mono ?_; rintro e w1 ⟨rfl, k1⟩
      have hkk := k1.below
      go_wp2_with fail
      go_ret
      exact ⟨rfl, hkk⟩
  · have f0 : 0 ≤ f := by omega
    have fs : f ≤ s := by omega
    have s8 : s ≤ 8192 := by omega
    have hn := mnew f s w f0 fs s8
    have HN := Lib.hid hn
    clear hn hbad f1 f2 s1 s2
    go_enter Try.func7, Try.ntmps7
    go_wp2_with fail
    refine HN.out.mono ?_; rintro e w1 ⟨⟨b, rfl, hb, hM1⟩, q1⟩
    have hg1 := q1.size
    have hbl := hM1.lt
    have h0 : MapsRel w b w1.heap.size f s [] (.slice none 0 0) (.slice none 0 0) [] (w1.alloc (.cells #[.int .i64 f, .int .i64 s, .slice none 0 0] 44)) :=
      ⟨hM1.kept0 ((Kept.refl _ _).alloc _), Own.new _ _ _, RunsRow.none _ 0, trivial, fun m _ hh => (by simp [hasB] at hh), Took.nil _ _ (q1.alloc _), hb, hg1, by omega⟩
    have H0 := Lib.hid h0
    have hbne : b ≠ w1.heap.size := by omega
    obtain ⟨g, hg⟩ : ∃ g, g = w1.heap.size := ⟨_, rfl⟩
    have HG := Lib.hid hg
    have HBN := Lib.hid hbne
    clear h0 hM1 hg hbl hbne
    go_wp2_with fail
    rw [← HG.out]
    have H0' : Hid (MapsRel w b g f s [] (.slice none 0 0) (.slice none 0 0) [] (w1.alloc (.cells #[.int .i64 f, .int .i64 s, .slice none 0 0] 44))) := Lib.hid (by rw [HG.out]; exact H0.out)
    have hgw : w.heap.size ≤ g := by rw [HG.out]; exact hg1
    go_loopw [10, 11] (fun v10 i wr => ∃ (k : Nat) (T : List (Int × Int)) (vT : Value) (tk : List (Value × List (Int × Int))), k ≤ acts.length ∧ k ≤ 14 ∧ i = .int .i64 k ∧ tk.length ≤ k ∧ MapsRel w b g f s T vT v10 tk wr) (fun _ i _ => acts.length - (intOf i).toNat)
    case atStart => exact ⟨0, [], .slice none 0 0, [], by omega, by omega, rfl, Nat.le_refl _, H0'.out⟩
    case round =>
      obtain ⟨k, T, vT, tk, hk, hk14, rfl, htk, hR⟩ := hrel
      have HR := Lib.hid hR
      clear hR H0 H0' HG HN hg1
      by_cases hlt : k < acts.length ∧ k < 14
      · obtain ⟨hlt1, hlt2⟩ := hlt
        obtain ⟨ba, off, kv, rfl, c0, c1, c2, hr, hfit, _, hbh, hhw⟩ := (HA.out.kept0 HR.out.took.kept).at_ k hlt1
        have hwks := HR.out.took.kept.size
        have hbaw : ba < wr.heap.size := by omega
        generalize acts[k] = X at *
        obtain ⟨kd, n, la⟩ := X
        obtain ⟨hkw, hnw, hwl⟩ := hfit
        simp only at c0 c1 c2 hr hkw hnw hwl
        obtain ⟨kd0, kd1⟩ := BD8.out _ hkw
        obtain ⟨pk, ck, rfl⟩ := hr.shape
        obtain ⟨pT, cT, rfl⟩ := HR.out.row.shape
        obtain ⟨n0, n1⟩ := BD.out _ hnw
        clear hkw hnw
        have i1 : (k : Int) < acts.length := by omega
        have i2 : (k : Int) < 14 := by omega
        have HLT := Lib.hid hlt1
        have HLT2 := Lib.hid hlt2
        have HTK := Lib.hid htk
        have hfew := fun W (hk : Kept [] wr W) => xfew _ la 0 w.heap.size W (hr.kept0 hk)
        have hwl30 : ∀ a ∈ la.take 30, WfRun a := fun a ha => hwl a (List.mem_of_mem_take ha)
        have hl30 : (la.take 30).length ≤ 30 := List.length_take_le _ _
        have HF := Lib.hid hfew
        have HWL := Lib.hid hwl30
        have oA := Own.new wr #[.int .u8 kd, .int .i64 n, .slice pk la.length ck] 47
        obtain ⟨a0, a1, a2⟩ := oA.c3
        have OA := Lib.hid oA
        obtain ⟨p10, cc10, rfl⟩ := own_shape HR.out.took.row
        clear hfew hr hwl hwl30 oA hlt1 hlt2 htk
        generalize la.take 30 = l at *
        generalize la.length = nla at *
        generalize hD0 : (decide (kd % 5 = 4) && (decide (0 < tk.length) && decide (0 ≤ n))) = D
        have HD := Lib.hid hD0
        clear hD0
        go_wp2_with fail
        refine (HF.out _ ((Kept.refl _ _).alloc _)).mono ?_; rintro e w' ⟨⟨vl, rfl, rl⟩, rfl⟩
        have RL := Lib.hid rl
        clear rl HF
        go_upto_region 13 with fail
        go_cut [84] from 54 to 164 (fun v84 wx => v84 = .bool D ∧ wx = wr.alloc (.cells #[.int .u8 kd, .int .i64 n, .slice pk nla ck] 47))
        case first =>
          rcases (by omega : kd % 5 ≠ 4 ∨ (kd % 5 = 4 ∧ tk.length = 0) ∨ (kd % 5 = 4 ∧ 0 < tk.length ∧ n < 0) ∨ (kd % 5 = 4 ∧ 0 < tk.length ∧ 0 ≤ n)) with t1 | ⟨t1, t2⟩ | ⟨t1, t2, t3⟩ | ⟨t1, t2, t3⟩
          · have hE : D = false := by rw [← HD.out, decide_eq_false t1]; rfl
            subst hE
            have t1' : (kd % 5 == 4) = false := by simpa using t1
            go_wp2_with fail
            go_meet
            exact ⟨rfl, rfl⟩
          · have hE : D = false := by rw [← HD.out, decide_eq_true t1, decide_eq_false (by omega : ¬ 0 < tk.length)]; rfl
            subst hE
            go_wp2_with fail
            go_meet
            exact ⟨rfl, rfl⟩
          · have hE : D = false := by rw [← HD.out, decide_eq_true t1, decide_eq_true t2, decide_eq_false (by omega : ¬ 0 ≤ n)]; rfl
            subst hE
            go_wp2_with fail
            go_meet
            exact ⟨congrArg Value.bool (decide_eq_false (by omega)), rfl⟩
          · have hE : D = true := by rw [← HD.out, decide_eq_true t1, decide_eq_true t2, decide_eq_true t3]; rfl
            subst hE
            go_wp2_with fail
            go_meet
            first | exact ⟨rfl, rfl⟩ | exact ⟨congrArg Value.bool (decide_eq_true (by omega)), rfl⟩
        case rest =>
          obtain ⟨rfl, rfl⟩ := hcut
          go_upto_if 84 with fail
          go_cut [13] from 54 to 164 (fun v13 wx => (∃ l', Src w wx v13 l' ∧ l'.length ≤ 10000 ∧ ∀ a ∈ l', WfRun a) ∧ wx = wr.alloc (.cells #[.int .u8 kd, .int .i64 n, .slice pk nla ck] 47))
          case first =>
            cases D
            · go_wp2_with fail
              go_meet
              exact ⟨⟨l, Or.inl RL.out, by omega, HWL.out⟩, rfl⟩
            · have hDD := HD.out
              simp only [Bool.and_eq_true, decide_eq_true_eq] at hDD
              obtain ⟨d1, d2, d3⟩ := hDD
              have htook := HR.out.took.step0 ((Kept.refl _ _).alloc (.cells #[.int .u8 kd, .int .i64 n, .slice pk nla ck] 47))
              obtain ⟨g10, c10, e10, hb10, hlt10, hnc10, hcm10, hcell⟩ := ownsRow_at htook.row d2
              injection e10 with e1 e2 e3
              subst e1 e3
              obtain ⟨j, hj⟩ := Int.eq_ofNat_of_zero_le (Int.emod_nonneg n (show (tk.length : Int) ≠ 0 by omega))
              have hjl : j < tk.length := by
                have := Int.emod_lt_of_pos n (show (0 : Int) < tk.length by omega)
                omega
              have hjt : n.tmod (tk.length : Int) = (j : Int) := by rw [Int.tmod_eq_emod_of_nonneg d3]; exact hj
              have hcj := hcell j (tk[j].1) (by simp [hjl])
              have hel := htook.each tk[j] (List.getElem_mem hjl)
              have hell := hel.2.len0
              have hres : ∃ l', Src w (wr.alloc (.cells #[.int .u8 kd, .int .i64 n, .slice pk nla ck] 47)) tk[j].1 l' ∧ l'.length ≤ 10000 ∧ ∀ a ∈ l', WfRun a := ⟨tk[j].2, Or.inr hel.1, by omega, pl_wf (Int.le_refl _) hel.2⟩
              have HRES := Lib.hid hres
              have i3 : (j : Int) < tk.length := by omega
              have i4 : (0 : Int) < tk.length := by omega
              clear hres hel hell hcell htook d1
              generalize tk[j].1 = uj at *
              go_wp2_with fail
              go_meet
              exact ⟨HRES.out, rfl⟩
          case rest =>
            obtain ⟨⟨l', hsrc, hl', hwl'⟩, rfl⟩ := hcut
            have SR := Lib.hid hsrc
            have HWL' := Lib.hid hwl'
            obtain ⟨p13, c13, rfl⟩ := hsrc.shape
            have hR2 := HR.out.step0 (((Kept.refl _ _).alloc (.cells #[.int .u8 kd, .int .i64 n, .slice pk nla ck] 47)).alloc (.cells #[.int .i64 f, .int .i64 s, .slice pT T.length cT] 44))
            obtain ⟨b0, b1, b2⟩ := (HR.out.ref).c3
            have hgl := HR.out.ref.lt
            have HR2 := Lib.hid hR2
            have hoX := (own_two wr #[.int .u8 kd, .int .i64 n, .slice pk nla ck] #[.int .i64 f, .int .i64 s, .slice pT T.length cT] 47 44)
            have OX := Lib.hid hoX
            have hgx : w.heap.size ≤ wr.heap.size + 1 := by omega
            have hbx : b < wr.heap.size := HR.out.map.lt
            clear hsrc hwl' hR2 hoX HWL RL HD
            go_upto_block 2 with fail
            go_cut [10, 15, 16, 17, 18] from 54 to 164 (fun v10' v15 u v v18 wx => Told w b g f s (k + 1) (wr.heap.size + 1) v10' v15 u v v18 wx)
            case first =>
              rcases (by omega : (kd % 5 = 0 ∨ kd % 5 = 1) ∨ kd % 5 = 2 ∨ (kd % 5 = 3 ∨ kd % 5 = 4)) with (hkd | hkd) | hkd | (hkd | hkd)
              · obtain ⟨C, hC⟩ : ∃ C, lowCode (freeL f s T) n = C := ⟨_, rfl⟩
                obtain ⟨L, hL⟩ : ∃ L, lowRes (freeL f s T) n = L := ⟨_, rfl⟩
                obtain ⟨T', hT'⟩ : ∃ T', takeT f s T n = T' := ⟨_, rfl⟩
                have hF1 : takeF (freeL f s T) n = freeL f s T' := by rw [take_side, hT']
                have hpT' : Pl 0 T' := by rw [← hT']; exact taket_pl HR2.out.pl n
                have hwT' : Within f s T' := by rw [← hT']; exact within_taket HR2.out.win n
                have hpL : Pl 0 L := by rw [← hL]; exact lowRes_pl _ _
                have hzt := ztakeG f s _ T n _ HR2.out.row HR2.out.pl f0 fs s8 n0 n1 hC hL hT'
                have hmt := fun W (h : MapAt W b f s (freeL f s T)) => mtakeG h n n0 n1 hC hL hF1
                have HZT := Lib.hid hzt
                have HMT := Lib.hid hmt
                have PT' := Lib.hid hpT'
                have WT' := Lib.hid hwT'
                have PL' := Lib.hid hpL
                obtain ⟨i0, y0, y1, y2, y3⟩ := infoRuns
                clear hzt hmt hpT' hwT' hpL hC hL hT' hF1
                go_wp2_with fail
                refine HZT.out.mono ?_; rintro e w2 ⟨⟨v', u, rfl, r', ru⟩, k2⟩
                obtain ⟨p', c', rfl⟩ := r'.shape
                obtain ⟨pu, cu, rfl⟩ := ru.shape
                have R' := Lib.hid r'
                have RU := Lib.hid ru
                have oX := k2.own OX.out.2 (by simp)
                have oA := k2.own OX.out.1 (by simp)
                obtain ⟨d0, d1, d2⟩ := oA.c3
                obtain ⟨x0, x1, x2⟩ := oX.z3
                obtain ⟨xx0, xx1, xx2⟩ := oX.c3
                have hxl := oX.lt
                have hMR := HR2.out.step0 k2
                have MR := Lib.hid hMR
                have oX' := oX.set3 (.int .i64 f) (.int .i64 s) (.slice p' T'.length c')
                have k3 : Kept [wr.heap.size + 1] w2 (((w2.setCell ⟨wr.heap.size + 1, 0, none⟩ (.int .i64 f)).setCell ⟨wr.heap.size + 1, 1, none⟩ (.int .i64 s)).setCell ⟨wr.heap.size + 1, 2, none⟩ (.slice p' T'.length c')) := (Kept.refl _ _).set3 (Or.inl (by simp)) _ _ _
                have hAs : Aside w w2 [wr.heap.size + 1] := Aside.one oX hgx (by decide) (by decide)
                have hm3 := hMR.map.kept k3 (by simp; omega) hAs.noRuns
                have hm3' := HMT.out _ hm3
                have HM3 := Lib.hid hm3'
                have M3 := Lib.hid hm3
                have K3 := Lib.hid k3
                have AS := Lib.hid hAs
                have OX' := Lib.hid oX'
                have oA3 := oA.other3 (b := wr.heap.size + 1) (by omega) (.int .i64 f) (.int .i64 s) (.slice p' T'.length c')
                have OA3 := Lib.hid oA3
                clear r' ru oX oA hMR oX' k3 hAs hm3 hm3' HMT HZT oA3
                go_wp2_with fail
                refine HM3.out.mono ?_; rintro e w4 ⟨⟨v4, rfl, rv⟩, hM4, k4⟩
                obtain ⟨p4, c4, rfl⟩ := rv.shape
                have hAb := M3.out.aside hb
                have RV := Lib.hid rv
                have M4 := Lib.hid hM4
                have K4 := Lib.hid k4
                have AB := Lib.hid hAb
                have htook := (((HR2.out.took.step0 k2).step K3.out AS.out).step k4 hAb).step0 ((Kept.refl _ _).alloc (.cells #[.slice pu L.length cu] 22))
                have TK := Lib.hid htook
                have hs4 := (((HR2.out.took.step0 k2).step K3.out AS.out).step k4 hAb).kept.size
                have r3 : tk.length + 1 ≤ maxLen := by have := HTK.out; unfold maxLen; omega
                have r4 : (tk.length + 1) * 24 ≤ 140737488355328 := by have := HTK.out; omega
                clear rv hM4 k4 hAb htook
                go_wp2_with (at_builtin; go_must (refine wpList_append_own_at _ rfl (.tmp 124) (.tmp 126) 45 rfl w.heap.size 22 i0 (.slice none 0 0) 1 24 Try.underlying45 y0 y1 y2 y3 rfl (by decide) _ _ _ rfl TK.out.row ⟨w4.heap.size, 0, none⟩ 1 1 [.slice pu L.length cu] rfl rfl ?_ ?_ r3 r4 ?_ ?_))
                · exact World.news_of_block (heap_alloc_new w4 _)
                · intro u hu; simp at hu; subst hu; rfl
                · simp; omega
                intro v6 w6 o6 gr6 _ _
                have k6 : Kept [] w w6 := TK.out.kept.grown gr6 (fun g hg => Or.inr (World.ownsRow.lt TK.out.row g hg).1)
                have ka : Kept [] w4 (w4.alloc (.cells #[.slice pu L.length cu] 22)) := (Kept.refl _ _).alloc _
                have hu4 := (((RU.out.kept K3.out AS.out.noRuns).kept K4.out AB.out.noRuns).kept0 ka)
                have hT6 := TK.out.more hu4 PL'.out gr6 o6 k6
                have hmap := (M4.out.kept0 ka).grown TK.out.row gr6
                have href := own_grown (ka.own (K4.out.own ((k2.own HR2.out.ref (by simp)).other3 (b := wr.heap.size + 1) (by have := HR.out.ref.lt; omega) (.int .i64 f) (.int .i64 s) (.slice p' T'.length c')) (by simpa using HR2.out.ne.symm)) (by simp)) (by decide) TK.out.row gr6
                have hnew := own_grown (ka.own (K4.out.own OX'.out (by simp; omega)) (by simp)) (by decide) TK.out.row gr6
                have hrow := runs_grown (((R'.out.kept K3.out AS.out.noRuns).kept K4.out AB.out.noRuns).kept0 ka) TK.out.row gr6
                have htold := runs_grown hu4 TK.out.row gr6
                have hgot := runs_grown (RV.out.kept0 ka) TK.out.row gr6
                have hfin : ToldRel w b g f s (wr.heap.size + 1) T' (.slice p' T'.length c') v6 (tk ++ [(.slice pu L.length cu, L)]) (.slice pu L.length cu) (.slice p4 L.length c4) L w6 := ⟨hmap, ⟨_, href⟩, hnew, hrow, PT'.out, WT'.out, hT6, htold, hgot, PL'.out, hb, hgw, hgx, HR2.out.ne, by have := HR.out.ref.lt; omega, by omega⟩
                have HFIN := Lib.hid hfin
                have hlen : (tk ++ [(Value.slice pu L.length cu, L)]).length ≤ k + 1 := by have := HTK.out; simp; omega
                have HLEN := Lib.hid hlen
                clear hfin hmap href hnew hrow htold hgot hT6 hu4 ka k6 gr6 o6 TK hlen
                go_wp2_with fail
                go_meet
                exact ⟨_, _, _, _, _, rfl, rfl, HLEN.out, HFIN.out⟩
              · obtain ⟨C, hC⟩ : ∃ C, lowCode (freeL f s T) n = C := ⟨_, rfl⟩
                obtain ⟨L, hL⟩ : ∃ L, lowRes (freeL f s T) n = L := ⟨_, rfl⟩
                obtain ⟨T', hT'⟩ : ∃ T', takeT f s T n = T' := ⟨_, rfl⟩
                have hF1 : takeF (freeL f s T) n = freeL f s T' := by rw [take_side, hT']
                have hpT' : Pl 0 T' := by rw [← hT']; exact taket_pl HR2.out.pl n
                have hwT' : Within f s T' := by rw [← hT']; exact within_taket HR2.out.win n
                have hpL : Pl 0 L := by rw [← hL]; exact lowRes_pl _ _
                have hzt := ztakeG f s _ T n _ HR2.out.row HR2.out.pl f0 fs s8 n0 n1 hC hL hT'
                have hmt := fun W (h : MapAt W b f s (freeL f s T)) => mtakeG h n n0 n1 hC hL hF1
                have HZT := Lib.hid hzt
                have HMT := Lib.hid hmt
                have PT' := Lib.hid hpT'
                have WT' := Lib.hid hwT'
                have PL' := Lib.hid hpL
                obtain ⟨i0, y0, y1, y2, y3⟩ := infoRuns
                clear hzt hmt hpT' hwT' hpL hC hL hT' hF1
                go_wp2_with fail
                refine HZT.out.mono ?_; rintro e w2 ⟨⟨v', u, rfl, r', ru⟩, k2⟩
                obtain ⟨p', c', rfl⟩ := r'.shape
                obtain ⟨pu, cu, rfl⟩ := ru.shape
                have R' := Lib.hid r'
                have RU := Lib.hid ru
                have oX := k2.own OX.out.2 (by simp)
                have oA := k2.own OX.out.1 (by simp)
                obtain ⟨d0, d1, d2⟩ := oA.c3
                obtain ⟨x0, x1, x2⟩ := oX.z3
                obtain ⟨xx0, xx1, xx2⟩ := oX.c3
                have hxl := oX.lt
                have hMR := HR2.out.step0 k2
                have MR := Lib.hid hMR
                have oX' := oX.set3 (.int .i64 f) (.int .i64 s) (.slice p' T'.length c')
                have k3 : Kept [wr.heap.size + 1] w2 (((w2.setCell ⟨wr.heap.size + 1, 0, none⟩ (.int .i64 f)).setCell ⟨wr.heap.size + 1, 1, none⟩ (.int .i64 s)).setCell ⟨wr.heap.size + 1, 2, none⟩ (.slice p' T'.length c')) := (Kept.refl _ _).set3 (Or.inl (by simp)) _ _ _
                have hAs : Aside w w2 [wr.heap.size + 1] := Aside.one oX hgx (by decide) (by decide)
                have hm3 := hMR.map.kept k3 (by simp; omega) hAs.noRuns
                have hm3' := HMT.out _ hm3
                have HM3 := Lib.hid hm3'
                have M3 := Lib.hid hm3
                have K3 := Lib.hid k3
                have AS := Lib.hid hAs
                have OX' := Lib.hid oX'
                have oA3 := oA.other3 (b := wr.heap.size + 1) (by omega) (.int .i64 f) (.int .i64 s) (.slice p' T'.length c')
                have OA3 := Lib.hid oA3
                clear r' ru oX oA hMR oX' k3 hAs hm3 hm3' HMT HZT oA3
                go_wp2_with fail
                refine HM3.out.mono ?_; rintro e w4 ⟨⟨v4, rfl, rv⟩, hM4, k4⟩
                obtain ⟨p4, c4, rfl⟩ := rv.shape
                have hAb := M3.out.aside hb
                have RV := Lib.hid rv
                have M4 := Lib.hid hM4
                have K4 := Lib.hid k4
                have AB := Lib.hid hAb
                have htook := (((HR2.out.took.step0 k2).step K3.out AS.out).step k4 hAb).step0 ((Kept.refl _ _).alloc (.cells #[.slice pu L.length cu] 22))
                have TK := Lib.hid htook
                have hs4 := (((HR2.out.took.step0 k2).step K3.out AS.out).step k4 hAb).kept.size
                have r3 : tk.length + 1 ≤ maxLen := by have := HTK.out; unfold maxLen; omega
                have r4 : (tk.length + 1) * 24 ≤ 140737488355328 := by have := HTK.out; omega
                clear rv hM4 k4 hAb htook
                go_wp2_with (at_builtin; go_must (refine wpList_append_own_at _ rfl (.tmp 124) (.tmp 126) 45 rfl w.heap.size 22 i0 (.slice none 0 0) 1 24 Try.underlying45 y0 y1 y2 y3 rfl (by decide) _ _ _ rfl TK.out.row ⟨w4.heap.size, 0, none⟩ 1 1 [.slice pu L.length cu] rfl rfl ?_ ?_ r3 r4 ?_ ?_))
                · exact World.news_of_block (heap_alloc_new w4 _)
                · intro u hu; simp at hu; subst hu; rfl
                · simp; omega
                intro v6 w6 o6 gr6 _ _
                have k6 : Kept [] w w6 := TK.out.kept.grown gr6 (fun g hg => Or.inr (World.ownsRow.lt TK.out.row g hg).1)
                have ka : Kept [] w4 (w4.alloc (.cells #[.slice pu L.length cu] 22)) := (Kept.refl _ _).alloc _
                have hu4 := (((RU.out.kept K3.out AS.out.noRuns).kept K4.out AB.out.noRuns).kept0 ka)
                have hT6 := TK.out.more hu4 PL'.out gr6 o6 k6
                have hmap := (M4.out.kept0 ka).grown TK.out.row gr6
                have href := own_grown (ka.own (K4.out.own ((k2.own HR2.out.ref (by simp)).other3 (b := wr.heap.size + 1) (by have := HR.out.ref.lt; omega) (.int .i64 f) (.int .i64 s) (.slice p' T'.length c')) (by simpa using HR2.out.ne.symm)) (by simp)) (by decide) TK.out.row gr6
                have hnew := own_grown (ka.own (K4.out.own OX'.out (by simp; omega)) (by simp)) (by decide) TK.out.row gr6
                have hrow := runs_grown (((R'.out.kept K3.out AS.out.noRuns).kept K4.out AB.out.noRuns).kept0 ka) TK.out.row gr6
                have htold := runs_grown hu4 TK.out.row gr6
                have hgot := runs_grown (RV.out.kept0 ka) TK.out.row gr6
                have hfin : ToldRel w b g f s (wr.heap.size + 1) T' (.slice p' T'.length c') v6 (tk ++ [(.slice pu L.length cu, L)]) (.slice pu L.length cu) (.slice p4 L.length c4) L w6 := ⟨hmap, ⟨_, href⟩, hnew, hrow, PT'.out, WT'.out, hT6, htold, hgot, PL'.out, hb, hgw, hgx, HR2.out.ne, by have := HR.out.ref.lt; omega, by omega⟩
                have HFIN := Lib.hid hfin
                have hlen : (tk ++ [(Value.slice pu L.length cu, L)]).length ≤ k + 1 := by have := HTK.out; simp; omega
                have HLEN := Lib.hid hlen
                clear hfin hmap href hnew hrow htold hgot hT6 hu4 ka k6 gr6 o6 TK hlen
                go_wp2_with fail
                go_meet
                exact ⟨_, _, _, _, _, rfl, rfl, HLEN.out, HFIN.out⟩
              · obtain ⟨hi', hin⟩ := SR.out.in_
                have hin2 := hin.kept0 ((Kept.refl _ _).alloc (.cells #[.int .i64 f, .int .i64 s, .slice pT T.length cT] 44))
                have hzh := zhold f s _ T _ l' 0 hi' _ HR2.out.row HR2.out.pl hin2 (by omega) HWL'.out f0 fs s8
                have hmh := fun W F (h : MapAt W b f s F) hi' (hi : RunsIn W (.slice p13 l'.length c13) l' 0 hi') => mhold h _ l' 0 hi' hi (by omega) HWL'.out (by omega) (by omega) (by omega) (by omega)
                unfold HoldSaysR at hzh
                unfold HoldSays at hmh
                have HZ := Lib.hid hzh
                have HM := Lib.hid hmh
                clear hzh hmh hin hin2
                go_wp2_with fail
                refine HZ.out.mono ?_; rintro e w2 ⟨v', C, T', rfl, hisR, r', k2⟩
                obtain ⟨p', c', rfl⟩ := r'.shape
                have R' := Lib.hid r'
                have IR := Lib.hid hisR
                have oX := k2.own OX.out.2 (by simp)
                obtain ⟨x0, x1, x2⟩ := oX.z3
                obtain ⟨xx0, xx1, xx2⟩ := oX.c3
                have hxl := oX.lt
                have hMR := HR2.out.step0 k2
                have MR := Lib.hid hMR
                have oX' := oX.set3 (.int .i64 f) (.int .i64 s) (.slice p' T'.length c')
                have k3 : Kept [wr.heap.size + 1] w2 (((w2.setCell ⟨wr.heap.size + 1, 0, none⟩ (.int .i64 f)).setCell ⟨wr.heap.size + 1, 1, none⟩ (.int .i64 s)).setCell ⟨wr.heap.size + 1, 2, none⟩ (.slice p' T'.length c')) := (Kept.refl _ _).set3 (Or.inl (by simp)) _ _ _
                have hAs : Aside w w2 [wr.heap.size + 1] := Aside.one oX hgx (by decide) (by decide)
                have hm3 := hMR.map.kept k3 (by simp; omega) hAs.noRuns
                have hsr3 := ((SR.out.kept0 ((Kept.refl _ _).alloc (.cells #[.int .i64 f, .int .i64 s, .slice pT T.length cT] 44))).kept0 k2).kept k3 hAs
                obtain ⟨hi3, hin3⟩ := hsr3.in_
                have hm3' := HM.out _ _ hm3 _ hin3
                have HM3 := Lib.hid hm3'
                have M3 := Lib.hid hm3
                have K3 := Lib.hid k3
                have AS := Lib.hid hAs
                have OX' := Lib.hid oX'
                clear r' hisR oX hMR oX' k3 hAs hm3 hm3' HM HZ hsr3 hin3
                go_wp2_with fail
                refine HM3.out.mono ?_; rintro e w4 ⟨C4, F4, rfl, his, hM4, k4⟩
                have hsd := hold_side his IR.out HR2.out.pl HR2.out.win
                obtain ⟨hcc, hff, hpT', hwT'⟩ := hsd
                have HCC := Lib.hid hcc
                rw [hff] at hM4
                have hAb := M3.out.aside hb
                have htook := (((HR2.out.took.step0 k2).step K3.out AS.out).step k4 hAb)
                have href := k4.own ((k2.own HR2.out.ref (by simp)).other3 (b := wr.heap.size + 1) (by have := HR.out.ref.lt; omega) (.int .i64 f) (.int .i64 s) (.slice p' T'.length c')) (by simpa using HR2.out.ne.symm)
                have hnew := k4.own OX'.out (by simp; omega)
                have hrow := (R'.out.kept K3.out AS.out.noRuns).kept k4 hAb.noRuns
                have hfin := told_none (w0 := w) (gx := wr.heap.size + 1) hM4 ⟨_, href⟩ hnew hrow hpT' hwT' htook hb hgw hgx HR2.out.ne (by have := HR.out.ref.lt; omega) (by omega)
                have HFIN := Lib.hid hfin
                have hlen : tk.length ≤ k + 1 := by have := HTK.out; omega
                have HLEN := Lib.hid hlen
                clear hfin hM4 href hnew hrow htook hAb k4 hpT' hwT' his hff hlen hcc
                go_wp2_with fail
                go_meet
                exact ⟨_, _, _, _, _, rfl, congrArg (Value.int .i64) HCC.out, HLEN.out, HFIN.out⟩
              · obtain ⟨hi', hin⟩ := SR.out.in_
                have hin2 := hin.kept0 ((Kept.refl _ _).alloc (.cells #[.int .i64 f, .int .i64 s, .slice pT T.length cT] 44))
                have hzh := zgive f s _ T _ l' 0 hi' _ HR2.out.row HR2.out.pl hin2 (by omega) HWL'.out f0 fs s8
                have hmh := fun W F (h : MapAt W b f s F) hi' (hi : RunsIn W (.slice p13 l'.length c13) l' 0 hi') => mgive h _ l' 0 hi' hi (by omega) HWL'.out (by omega) (by omega) (by omega) (by omega)
                unfold GiveSaysR at hzh
                unfold GiveSays at hmh
                have HZ := Lib.hid hzh
                have HM := Lib.hid hmh
                clear hzh hmh hin hin2
                go_wp2_with fail
                refine HZ.out.mono ?_; rintro e w2 ⟨v', C, T', rfl, hisR, r', k2⟩
                obtain ⟨p', c', rfl⟩ := r'.shape
                have R' := Lib.hid r'
                have IR := Lib.hid hisR
                have oX := k2.own OX.out.2 (by simp)
                obtain ⟨x0, x1, x2⟩ := oX.z3
                obtain ⟨xx0, xx1, xx2⟩ := oX.c3
                have hxl := oX.lt
                have hMR := HR2.out.step0 k2
                have MR := Lib.hid hMR
                have oX' := oX.set3 (.int .i64 f) (.int .i64 s) (.slice p' T'.length c')
                have k3 : Kept [wr.heap.size + 1] w2 (((w2.setCell ⟨wr.heap.size + 1, 0, none⟩ (.int .i64 f)).setCell ⟨wr.heap.size + 1, 1, none⟩ (.int .i64 s)).setCell ⟨wr.heap.size + 1, 2, none⟩ (.slice p' T'.length c')) := (Kept.refl _ _).set3 (Or.inl (by simp)) _ _ _
                have hAs : Aside w w2 [wr.heap.size + 1] := Aside.one oX hgx (by decide) (by decide)
                have hm3 := hMR.map.kept k3 (by simp; omega) hAs.noRuns
                have hsr3 := ((SR.out.kept0 ((Kept.refl _ _).alloc (.cells #[.int .i64 f, .int .i64 s, .slice pT T.length cT] 44))).kept0 k2).kept k3 hAs
                obtain ⟨hi3, hin3⟩ := hsr3.in_
                have hm3' := HM.out _ _ hm3 _ hin3
                have HM3 := Lib.hid hm3'
                have M3 := Lib.hid hm3
                have K3 := Lib.hid k3
                have AS := Lib.hid hAs
                have OX' := Lib.hid oX'
                clear r' hisR oX hMR oX' k3 hAs hm3 hm3' HM HZ hsr3 hin3
                go_wp2_with fail
                refine HM3.out.mono ?_; rintro e w4 ⟨C4, F4, rfl, his, hM4, k4⟩
                have hsd := give_side his IR.out HR2.out.pl HR2.out.win
                obtain ⟨hcc, hff, hpT', hwT'⟩ := hsd
                have HCC := Lib.hid hcc
                rw [hff] at hM4
                have hAb := M3.out.aside hb
                have htook := (((HR2.out.took.step0 k2).step K3.out AS.out).step k4 hAb)
                have href := k4.own ((k2.own HR2.out.ref (by simp)).other3 (b := wr.heap.size + 1) (by have := HR.out.ref.lt; omega) (.int .i64 f) (.int .i64 s) (.slice p' T'.length c')) (by simpa using HR2.out.ne.symm)
                have hnew := k4.own OX'.out (by simp; omega)
                have hrow := (R'.out.kept K3.out AS.out.noRuns).kept k4 hAb.noRuns
                have hfin := told_none (w0 := w) (gx := wr.heap.size + 1) hM4 ⟨_, href⟩ hnew hrow hpT' hwT' htook hb hgw hgx HR2.out.ne (by have := HR.out.ref.lt; omega) (by omega)
                have HFIN := Lib.hid hfin
                have hlen : tk.length ≤ k + 1 := by have := HTK.out; omega
                have HLEN := Lib.hid hlen
                clear hfin hM4 href hnew hrow htook hAb k4 hpT' hwT' his hff hlen hcc
                go_wp2_with fail
                go_meet
                exact ⟨_, _, _, _, _, rfl, congrArg (Value.int .i64) HCC.out, HLEN.out, HFIN.out⟩
              · obtain ⟨hi', hin⟩ := SR.out.in_
                have hin2 := hin.kept0 ((Kept.refl _ _).alloc (.cells #[.int .i64 f, .int .i64 s, .slice pT T.length cT] 44))
                have hzh := zgive f s _ T _ l' 0 hi' _ HR2.out.row HR2.out.pl hin2 (by omega) HWL'.out f0 fs s8
                have hmh := fun W F (h : MapAt W b f s F) hi' (hi : RunsIn W (.slice p13 l'.length c13) l' 0 hi') => mgive h _ l' 0 hi' hi (by omega) HWL'.out (by omega) (by omega) (by omega) (by omega)
                unfold GiveSaysR at hzh
                unfold GiveSays at hmh
                have HZ := Lib.hid hzh
                have HM := Lib.hid hmh
                clear hzh hmh hin hin2
                go_wp2_with fail
                refine HZ.out.mono ?_; rintro e w2 ⟨v', C, T', rfl, hisR, r', k2⟩
                obtain ⟨p', c', rfl⟩ := r'.shape
                have R' := Lib.hid r'
                have IR := Lib.hid hisR
                have oX := k2.own OX.out.2 (by simp)
                obtain ⟨x0, x1, x2⟩ := oX.z3
                obtain ⟨xx0, xx1, xx2⟩ := oX.c3
                have hxl := oX.lt
                have hMR := HR2.out.step0 k2
                have MR := Lib.hid hMR
                have oX' := oX.set3 (.int .i64 f) (.int .i64 s) (.slice p' T'.length c')
                have k3 : Kept [wr.heap.size + 1] w2 (((w2.setCell ⟨wr.heap.size + 1, 0, none⟩ (.int .i64 f)).setCell ⟨wr.heap.size + 1, 1, none⟩ (.int .i64 s)).setCell ⟨wr.heap.size + 1, 2, none⟩ (.slice p' T'.length c')) := (Kept.refl _ _).set3 (Or.inl (by simp)) _ _ _
                have hAs : Aside w w2 [wr.heap.size + 1] := Aside.one oX hgx (by decide) (by decide)
                have hm3 := hMR.map.kept k3 (by simp; omega) hAs.noRuns
                have hsr3 := ((SR.out.kept0 ((Kept.refl _ _).alloc (.cells #[.int .i64 f, .int .i64 s, .slice pT T.length cT] 44))).kept0 k2).kept k3 hAs
                obtain ⟨hi3, hin3⟩ := hsr3.in_
                have hm3' := HM.out _ _ hm3 _ hin3
                have HM3 := Lib.hid hm3'
                have M3 := Lib.hid hm3
                have K3 := Lib.hid k3
                have AS := Lib.hid hAs
                have OX' := Lib.hid oX'
                clear r' hisR oX hMR oX' k3 hAs hm3 hm3' HM HZ hsr3 hin3
                go_wp2_with fail
                refine HM3.out.mono ?_; rintro e w4 ⟨C4, F4, rfl, his, hM4, k4⟩
                have hsd := give_side his IR.out HR2.out.pl HR2.out.win
                obtain ⟨hcc, hff, hpT', hwT'⟩ := hsd
                have HCC := Lib.hid hcc
                rw [hff] at hM4
                have hAb := M3.out.aside hb
                have htook := (((HR2.out.took.step0 k2).step K3.out AS.out).step k4 hAb)
                have href := k4.own ((k2.own HR2.out.ref (by simp)).other3 (b := wr.heap.size + 1) (by have := HR.out.ref.lt; omega) (.int .i64 f) (.int .i64 s) (.slice p' T'.length c')) (by simpa using HR2.out.ne.symm)
                have hnew := k4.own OX'.out (by simp; omega)
                have hrow := (R'.out.kept K3.out AS.out.noRuns).kept k4 hAb.noRuns
                have hfin := told_none (w0 := w) (gx := wr.heap.size + 1) hM4 ⟨_, href⟩ hnew hrow hpT' hwT' htook hb hgw hgx HR2.out.ne (by have := HR.out.ref.lt; omega) (by omega)
                have HFIN := Lib.hid hfin
                have hlen : tk.length ≤ k + 1 := by have := HTK.out; omega
                have HLEN := Lib.hid hlen
                clear hfin hM4 href hnew hrow htook hAb k4 hpT' hwT' his hff hlen hcc
                go_wp2_with fail
                go_meet
                exact ⟨_, _, _, _, _, rfl, congrArg (Value.int .i64) HCC.out, HLEN.out, HFIN.out⟩
            case rest =>
              obtain ⟨C, T', vT', tk', L, rfl, rfl, htk', hT⟩ := hcut
              obtain ⟨pT', cT', rfl⟩ := hT.row.shape
              obtain ⟨vO, ho⟩ := hT.ref
              obtain ⟨m0, m1, m2⟩ := hT.new.c3
              obtain ⟨l0, l1, l2⟩ := ho.c3
              obtain ⟨z0, z1, z2⟩ := ho.z3
              have hgl5 := ho.lt
              have hnx := hT.next
              have hlL := hT.few.len0
              have hpF := free_pl f s T'
              have hlF := hpF.len0
              have hlT := hT.pl.len0
              have hkg : Kept [g] wc (((wc.setCell ⟨g, 0, none⟩ (.int .i64 f)).setCell ⟨g, 1, none⟩ (.int .i64 s)).setCell ⟨g, 2, none⟩ (.slice pT' T'.length cT')) := (Kept.refl _ _).set3 (Or.inl (by simp)) _ _ _
              have hNg : NoRuns wc [g] := NoRuns.one ho (by decide)
              have htold := hT.told.kept hkg hNg
              have hgot := hT.got.kept hkg hNg
              obtain ⟨pu, cu, rfl⟩ := hT.told.shape
              obtain ⟨pv, cv, rfl⟩ := hT.got.shape
              have HTK' := Lib.hid htk'
              have NX := Lib.hid hnx
              have TO := Lib.hid htold
              have GO := Lib.hid hgot
              have PF := Lib.hid hpF
              obtain ⟨p10', q10', rfl⟩ := own_shape hT.took.row
              clear hT htk' hnx htold hgot hpF hkg hNg HR2 SR HWL' OX
              go_wp2_with fail
              obtain ⟨w5, hw5⟩ : ∃ w5, w5 = (((wc.setCell ⟨g, 0, none⟩ (.int .i64 f)).setCell ⟨g, 1, none⟩ (.int .i64 s)).setCell ⟨g, 2, none⟩ (.slice pT' T'.length cT')) := ⟨_, rfl⟩
              rw [← hw5] at NX TO GO ⊢
              clear hw5 m0 m1 m2 l0 l1 l2 z0 z1 z2 ho hgl5
              have og := NX.out.ref
              obtain ⟨cg0, cg1, cg2⟩ := og.c3
              have hS1 := fun W (k : Kept [] w5 W) => zsame _ _ L _ _ _ _ W (GO.out.kept0 k).in_ (TO.out.kept0 k).in_ (by omega)
              have hFr := fun W (k : Kept [] w5 W) => mfree (NX.out.map.kept0 k)
              have hRm := fun W (k : Kept [] w5 W) => mroom (NX.out.map.kept0 k)
              have hRF := fun W (k : Kept [] w5 W) => zfree f s _ T' 0 _ W (NX.out.row.kept0 k).in_ (by omega) (pl_wf (Int.le_refl _) NX.out.pl) f0 fs s8
              have hWF := pl_wf (Int.le_refl _) PF.out
              have HS1 := Lib.hid hS1
              have HFr := Lib.hid hFr
              have HRm := Lib.hid hRm
              have HRF := Lib.hid hRF
              have HWF := Lib.hid hWF
              unfold GivesR at HFr HRF
              clear hS1 hFr hRm hRF hWF PF
              generalize freeL f s T' = F at HFr HRm HRF HWF hlF
              have kk : Kept [] w5 w5.drew := (Kept.refl _ _).drew
              have og := og.drew
              go_region_held3 (fun W => W.cell? ⟨g, 0, none⟩ = some (.int .i64 f) ∧ W.cell? ⟨g, 1, none⟩ = some (.int .i64 s) ∧ W.cell? ⟨g, 2, none⟩ = some (.slice pT' T'.length cT')) (go_keep)
                (first
                  | (go_at_call 12; ((with_reducible refine (HS1.out _ kk).mono ?_)); rintro e w' ⟨rfl, k'⟩; have kk := kk.trans k'; have og := k'.own og (by simp); obtain ⟨cg0, cg1, cg2⟩ := og.c3)
                  | (go_at_call 31; ((with_reducible refine (HFr.out _ kk).mono ?_)); rintro e w' ⟨vF, rfl, rF, kF⟩; obtain ⟨pF, cF, rfl⟩ := own_shape rF; have RF := Lib.hid (RunsIn.of_own rF); clear rF; have kk := kk.trans kF; have og := kF.own og (by simp); obtain ⟨cg0, cg1, cg2⟩ := og.c3)
                  | (go_at_call 37; ((with_reducible refine (HRF.out _ kk).mono ?_)); rintro e w' ⟨vR, rfl, rR, kR⟩; obtain ⟨pR, cR, rfl⟩ := own_shape rR; have RR := Lib.hid (RunsIn.of_own rR); clear rR; have kk := kk.trans kR; have og := kR.own og (by simp); obtain ⟨cg0, cg1, cg2⟩ := og.c3)
                  | (go_at_call 12; ((with_reducible refine (zsame _ _ F _ _ _ _ _ (by first | exact RF.out | exact RF.out.kept0 kR) (by first | exact RR.out | exact RR.out.kept0 kF) (by omega)).mono ?_)); rintro e w' ⟨rfl, k'⟩; have kk := kk.trans k'; have og := k'.own og (by simp); obtain ⟨cg0, cg1, cg2⟩ := og.c3)
                  | (go_at_call 32; ((with_reducible refine (HRm.out _ kk).mono ?_)); rintro e w' ⟨rfl, kM⟩; have kk := kk.trans kM; have og := kM.own og (by simp); obtain ⟨cg0, cg1, cg2⟩ := og.c3)
                  | (go_at_call 24; ((with_reducible refine (zcount _ F _ _ _ (by first | exact RR.out | exact RR.out.kept0 kM) (by omega) HWF.out).mono ?_)); rintro e w' ⟨rfl, kN⟩; have kk := kk.trans kN; have og := kN.own og (by simp); obtain ⟨cg0, cg1, cg2⟩ := og.c3))
              all_goals
                go_wp2_with fail
                go_roundw
                case rel => exact ⟨k + 1, T', _, tk', HLT.out, HLT2.out, by go_num, HTK'.out, NX.out.step0 kk⟩
                case measure => (have hh := HLT.out; simp [intOf]; omega)
      · rcases (by omega : k = acts.length ∨ (k < acts.length ∧ k = 14)) with rfl | ⟨h1, rfl⟩
        · have hkw := HR.out.took.kept
          go_wp2_with fail
          refine (xawake _).mono ?_; rintro e w9 ⟨rfl, k9⟩
          have hkk := (hkw.trans k9).below
          go_wp2_with fail
          go_ret
          exact ⟨rfl, hkk⟩
        · have hkw := HR.out.took.kept
          have h1' : (14 : Int) < acts.length := by omega
          go_wp2_with fail
          refine (xawake _).mono ?_; rintro e w9 ⟨rfl, k9⟩
          have hkk := (hkw.trans k9).below
          go_wp2_with fail
          go_ret
          exact ⟨rfl, hkk⟩
end Go.Proofs.Ytmljbmhalpdpmaa
