/- Layer 12 (blob): bytes got, as the program does it. -/
import Derived.Test.YtdnbddhjdokbfaaG18
import Derived.Test.YtdnbddhjdokbfaaG30
namespace Go.Proofs.Ytdnbddhjdokbfaa
open Go.RowKit Go.Shelf
set_option linter.unusedVariables false
set_option linter.unusedSimpArgs false
attribute [local go_sem] Oper.semAt_some

def GetSays (d : DK) (l : List (Int × Int)) (size : Int) (w : World) (e : Ending) (w' : World) : Prop := e = .returned (.tuple #[.string (bs (getX d l size)), .int .i64 (getCode d l size)]) ∧ Kept [] w w'
theorem infoByte : ∃ i, Try.prog.info? 5 = some i ∧ i.zero = some (.int .u8 0) ∧ i.size = 1 ∧ i.bytes = 1 := by
  have hi : (Try.prog.info? 5).map (fun i => (i.zero, i.size, i.bytes)) = some (some (.int .u8 0), 1, 1) := by kernel_rfl
  obtain ⟨i0, hi0, hz0, hz1, hz2⟩ := info_parts hi
  exact ⟨i0, hi0, hz0, hz1, hz2⟩
set_option maxRecDepth 100000 in
set_option maxHeartbeats 4000000 in
theorem bget {Inv : DK → World → Prop} {b : Nat} (O : DOps Inv b) (d : DK) (v : Value) (l : List (Int × Int)) (size : Int) (lo hi : Nat) (w : World) (hI : Inv d w) (h : RunsIn w v l lo hi) (hl : l.length ≤ 1000000) (hwf : ∀ a ∈ l, WfRun a)
    (hsz : (Lit.int .i64 size).wf = true) :
    Calls Try.prog 14 #[.pointer (some ⟨b, 0, none⟩), v, .int .i64 size] w (GetSays d l size w) := by
  have HC : ∀ W, Kept [] w W → Calls Try.prog 37 #[.pointer (some ⟨b, 0, none⟩), v, .int .i64 size] W fun e w' => e = .returned (.int .i64 (getCode d l size)) ∧ Kept [] W w' := fun W k => bcheck O d v l size lo hi W (O.keep hI k) (h.kept0 k) hl hwf hsz
  have HE : ∀ W, Kept [] w W → Calls Try.prog 29 #[v] W fun e w' => ∃ f, e = .returned f ∧ Kept [] W w' ∧ TellsR 5 w.heap.size l f w' := fun W k => bEach0 5 (by omega) w.heap.size v l 0 w.heap.size W (h.wide.kept0 k) hl hwf (Nat.le_refl _) k.size
  have HR : ∀ W, Kept [] w W → ∀ i : Nat, Calls Try.prog 36 #[.pointer (some ⟨b, 0, none⟩), .int .i64 ((i : Nat) : Int)] W fun e w' => e = .returned (.tuple #[.string (bs (rVal d i)), .int .i64 (atOf d i)]) ∧ W = w' := fun W k i => O.readC _ (O.keep hI k)
  have hfit := O.fit hI
  have hlen := O.len hI
  clear h hwf hI
  have k3 := (((Kept.refl [] w).alloc (.cells #[.pointer (some ⟨b, 0, none⟩)] 40)).alloc (.cells #[.string ⟨#[]⟩] 9)).alloc (.cells #[.int .i64 0] 32)
  by_cases hG : getCode d l size = 0
  · have hX : FitX l d.stand.length size ∧ ¬ d.down = true := by
      unfold getCode at hG
      by_cases hf : FitX l d.stand.length size
      · rw [if_pos hf] at hG
        by_cases hd : d.down = true
        · rw [if_pos hd] at hG; omega
        · exact ⟨hf, hd⟩
      · rw [if_neg hf] at hG; omega
    have hGX : getX d l size = (getL d (secsL l)).take size.toNat := by unfold getX; rw [if_pos hG]
    have hsecs := hX.1.secs
    have hsE : secsE l = secsL l := secsE_fit hX.1
    have hal : (secsL l).length ≤ 8192 := by rw [← hsE]; exact secsE_le l
    have hnn : 0 ≤ size := hX.1.1
    have hat0 : ∀ x ∈ secsL l, atOf d (x : Int) = 0 := fun x hx => by
      have := (hX.1.lt hx).1
      unfold atOf
      rw [if_neg hX.2, if_neg (by omega)]
    unfold GetSays
    obtain ⟨sz, rfl⟩ := Int.eq_ofNat_of_zero_le hnn
    rw [Int.toNat_natCast] at hGX
    obtain ⟨GL, hGL⟩ : ∃ GL, getL d (secsL l) = GL := ⟨_, rfl⟩
    rw [hGL] at hGX
    rw [hG, hGX]
    rw [hG] at HC
    have hgl : (getL d (secsL l)).length = 128 * (secsL l).length := getL_len hfit (fun y hy => by obtain ⟨_, h1, h2⟩ := atOf_zero (hat0 y hy); omega)
    have hle : sz ≤ GL.length := by
      rw [← hGL, hgl]
      have := hsecs
      unfold need at this
      split at this <;> omega
    have hle2 : GL.length ≤ 1048576 := by rw [← hGL, hgl]; omega
    have HGL := Lib.hid hGL
    clear hGX hG hnn hgl hGL hX hsecs hsz
    refine (callsIn_wide (n := 6)).1 ?_
    refine callsIn_of_wp_marks Try.func14 rfl trivial ?_ rfl
    simp only [Try.ntmps14, List.size_toArray, List.length_cons, List.length_nil, Nat.reduceAdd, Nat.reduceSub, Array.replicate_succ, Array.replicate_zero, List.push_toArray, List.append_toArray, List.nil_append, List.cons_append]
    refine wpIn_wide.2 ?_
    go_wp2_with fail
    refine (HC _ k3).mono ?_; rintro e w1 ⟨rfl, k1⟩
    have k31 := k3.trans k1
    have k31b := k31.alloc (.cells #[.slice none 0 0] 38)
    go_wp2_with fail
    refine (HE _ k31b).mono ?_; rintro e w2 ⟨f, rfl, k2, B1, B2, rfl, hT⟩
    go_wp2_with fail
    have k12 := k31b.trans k2
    have o3 : Own w2 w.heap.size #[.pointer (some ⟨b, 0, none⟩)] 40 := (k1.trans (((Kept.refl [] w1).alloc _).trans k2)).own (((Own.new w #[.pointer (some ⟨b, 0, none⟩)] 40).alloc _).alloc _) (by simp)
    have o6 : Own w2 (w.heap.size + 1) #[.string ⟨#[]⟩] 9 := by
      have := (Own.new (w.alloc (.cells #[.pointer (some ⟨b, 0, none⟩)] 40)) #[.string ⟨#[]⟩] 9).alloc (.cells #[.int .i64 0] 32)
      simp only [World.size_alloc] at this
      exact (k1.trans (((Kept.refl [] w1).alloc _).trans k2)).own this (by simp)
    have o7 : Own w2 (w.heap.size + 1 + 1) #[.int .i64 0] 32 := by
      have := Own.new ((w.alloc (.cells #[.pointer (some ⟨b, 0, none⟩)] 40)).alloc (.cells #[.string ⟨#[]⟩] 9)) #[.int .i64 0] 32
      simp only [World.size_alloc] at this
      exact (k1.trans (((Kept.refl [] w1).alloc _).trans k2)).own this (by simp)
    have o9 : Own w2 w1.heap.size #[.slice none 0 0] 38 := k2.own (Own.new w1 _ _) (by simp)
    have hs1 : w.heap.size + 3 ≤ w1.heap.size := by have := k1.size; simpa using this
    have hs2 : w1.heap.size + 1 ≤ w2.heap.size := by have := k2.size; simpa using this
    obtain ⟨i0, q0, q1, q2, q3⟩ := infoByte
    have hN8 := secsE_le l
    refine (wpIn_wide (n := 6)).1 ?_
    refine wpIn_rangeFunc_ownG rfl (by omega) (gf := 57) (lb := #[.pointer (some ⟨B1, 0, none⟩), .pointer (some ⟨B2, 0, none⟩)]) rfl trivial (enters_of Try.func57 (by kernel_rfl) rfl)
      hT (fun h k => KpR.trans h k) (KpR.turn (w := w2) (by omega)) (Below.refl _ w2) (fun _ => rfl)
      (fun (pre : List Nat) W => (∃ v, Boxed W w1.heap.size 38 v ∧ W.ownsRow w1.heap.size 5 1 v (getL d pre).length (Lib.strCells (bs (getL d pre))) ∧ ∀ x ∈ pre, atOf d (x : Int) = 0) ∧ Below w1.heap.size w2 W)
      (fun c (pre : List Nat) W => ∃ x ∈ pre, ¬ atOf d (x : Int) = 0)
      (OwnFrom.and (Go.Own.from (holdsRow_own w1.heap.size w1.heap.size 38 5 1 (fun pre : List Nat => (getL d pre).length) (fun pre : List Nat => Lib.strCells (bs (getL d pre))) (fun (pre : List Nat) v => ∀ x ∈ pre, atOf d (x : Int) = 0)) _) (ownFrom_below (by omega) (by omega)))
      (fun c => ownFrom_pure _ (fun pre : List Nat => ∃ x ∈ pre, ¬ atOf d (x : Int) = 0))
      ⟨⟨_, o9, World.ownsRow_nil _ _ _ _, fun x hx => by cases hx⟩, Below.refl _ w2⟩
      (fun x => { tmps := #[.pointer (some ⟨b, 0, none⟩), v, .int .i64 sz, .pointer (some ⟨w.heap.size, 0, none⟩), undef, undef, .pointer (some ⟨w.heap.size + 1, 0, none⟩), .pointer (some ⟨w.heap.size + 1 + 1, 0, none⟩), .int .i64 0, .pointer (some ⟨w1.heap.size, 0, none⟩), .int .i64 ((x : Nat) : Int), undef, undef, .pointer (some ⟨b, 0, none⟩), v, .int .i64 sz, .int .i64 0, .int .i64 0, .bool false, undef, v, .func (.func 57) #[] #[.pointer (some ⟨B1, 0, none⟩), .pointer (some ⟨B2, 0, none⟩)], .int .i64 ((x : Nat) : Int), undef, undef, undef, undef, undef, undef, undef, undef, undef, undef, undef, undef, undef, undef, undef, undef], defers := [] }) ?assign ?body ?done ?stop
    case assign =>
      intro l x W K hK
      gi_wp2
      exact hK
    case body =>
      rintro lp pre x W ⟨⟨u, hv, hrow, hat⟩, hB⟩ hlt
      have kW := kept_below k12 hB (by omega)
      have hc := hv.cell
      have hc3 : W.cell? ⟨w.heap.size, 0, none⟩ = some (.pointer (some ⟨b, 0, none⟩)) := (hB.cell (p := ⟨w.heap.size, 0, none⟩) (by show w.heap.size < w1.heap.size; omega)).trans (o3.cell 0 (by simp))
      have hRx := HR W kW x
      have hszB := hB.size
      by_cases hz : atOf d (x : Int) = 0
      · have e1 : rVal d (x : Int) = seen d x := by unfold rVal; rw [if_pos hz]; rfl
        rw [e1, hz] at hRx
        obtain ⟨_, hx1, hx2⟩ := atOf_zero hz
        have hsl := seen_len hfit (show x < d.stand.length by omega)
        have hgl : (getL d pre).length = 128 * pre.length := getL_len hfit (fun y hy => by obtain ⟨_, h1, h2⟩ := atOf_zero (hat y hy); omega)
        have hss : (bs (seen d x)).size = 128 := by rw [bs_size, hsl]
        have hsnoc : getL d (pre ++ [x]) = getL d pre ++ seen d x := by unfold getL; simp
        have hat' : ∀ y ∈ pre ++ [x], atOf d (y : Int) = 0 := fun y hy => by
          rcases List.mem_append.1 hy with hy | hy
          · exact hat y hy
          · have : y = x := by simpa using hy
            subst this; exact hz
        obtain ⟨nl, hnl⟩ : ∃ nl, (getL d pre).length = nl := ⟨_, rfl⟩
        rw [hnl] at hrow hgl
        have hb1 : nl + (bs (seen d x)).size ≤ 140737488355328 := by omega
        have hb2 : nl + (bs (seen d x)).size ≤ maxLen := by unfold maxLen; omega
        have HNL := Lib.hid hnl
        clear hnl hgl hx1 hx2
        obtain ⟨pu, cu, rfl⟩ := own_shape hrow
        gi_wp2_with (first
          | (refine ⟨trivial, ?_⟩; gi_at_call 36; refine (CallsIn.inRound lp (callsIn_wide.2 hRx)).mono ?_; rintro e w3 ⟨rfl, rfl⟩)
          | (gi_at_builtin; refine wpListIn_append_own_string _ rfl (.tmp 32) (.tmp 33) 38 9 rfl w1.heap.size 5 i0 Try.underlying38 Try.underlying9 q0 q1 q2 q3 _ _ _ rfl hrow (bs (seen d x)) rfl hb2 hb1 (by omega) ?_; intro v' w4 hown' hgrow _; rw [hss] at hown'; obtain ⟨g', cap', rfl⟩ := rowpos_shape hown' (by omega); obtain ⟨hv1, hv2, hr2, hk2, hb3⟩ := Boxed.appended0 hv (by decide) hrow (by omega) (Nat.le_refl _) hown' hgrow; have hc1 := hv1.cell; have hf1 := hv1.frozen))
        refine ⟨hk2.from _, kpr_append0 hv (by decide) hrow (by decide) hgrow (hb3.mono (show w.heap.size ≤ w1.heap.size by omega)), ⟨_, hv2, ?_, hat'⟩, hB.trans hb3⟩
        rw [hsnoc, strCells_append, List.length_append, HNL.out, hsl]
        exact hr2
      · have e1 : rVal d (x : Int) = [] := by unfold rVal; rw [if_neg hz]
        rw [e1] at hRx
        obtain ⟨G, hGq⟩ : ∃ G, atOf d (x : Int) = G := ⟨_, rfl⟩
        rw [hGq] at hRx
        have hz1 : ¬ G = 0 := hGq ▸ hz
        have e2 : (G != 0) = true := by simp [hz1]
        have HZ := Lib.hid hz
        clear hz hGq
        have c6 := (hB.cell (p := ⟨w.heap.size + 1, 0, none⟩) (by show w.heap.size + 1 < w1.heap.size; omega)).trans (o6.cell 0 (by simp))
        have z6 := (hB.frozen (p := ⟨w.heap.size + 1, 0, none⟩) (by show w.heap.size + 1 < w1.heap.size; omega)).trans (o6.free 0)
        have c7 := (hB.cell (p := ⟨w.heap.size + 1 + 1, 0, none⟩) (by show w.heap.size + 1 + 1 < w1.heap.size; omega)).trans (o7.cell 0 (by simp))
        have z7 := (hB.frozen (p := ⟨w.heap.size + 1 + 1, 0, none⟩) (by show w.heap.size + 1 + 1 < w1.heap.size; omega)).trans (o7.free 0)
        gi_wp2_with (refine ⟨trivial, ?_⟩; gi_at_call 36; refine (CallsIn.inRound lp (callsIn_wide.2 hRx)).mono ?_; rintro e w3 ⟨rfl, rfl⟩)
        exact ⟨((KeepsOthers.setCell _ _ _).trans (KeepsOthers.setCell _ _ _)).from _, x, by simp, HZ.out⟩
    case done =>
      rintro D xs W hD rfl ⟨⟨u, hv, hrow, hat⟩, hB⟩ hK
      have kW := kept_below k12 hB (by omega)
      have hc := hv.cell
      rw [hsE] at hrow
      have o6 : Own W (w.heap.size + 1) #[.string ⟨#[]⟩] 9 := (hB.block (w.heap.size + 1) (by omega)).trans o6
      have o7 : Own W (w.heap.size + 1 + 1) #[.int .i64 0] 32 := (hB.block (w.heap.size + 1 + 1) (by omega)).trans o7
      rw [HGL.out] at hrow
      have c6 := o6.cell 0 (by simp)
      have z6 := o6.free 0
      have c7 := o7.cell 0 (by simp)
      have z7 := o7.free 0
      have hfin : ∀ S : ByteArray, Hid (((W.setCell ⟨w.heap.size + 1, 0, none⟩ (.string S)).setCell ⟨w.heap.size + 1 + 1, 0, none⟩ (.int .i64 0)).heap[D]? = some (.deferred (some [])) ∧
          ((((W.setCell ⟨w.heap.size + 1, 0, none⟩ (.string S)).setCell ⟨w.heap.size + 1 + 1, 0, none⟩ (.int .i64 0)).putObj D (.deferred none)).cell? ⟨w.heap.size + 1, 0, none⟩ = some (.string S) ∧
          (((W.setCell ⟨w.heap.size + 1, 0, none⟩ (.string S)).setCell ⟨w.heap.size + 1 + 1, 0, none⟩ (.int .i64 0)).putObj D (.deferred none)).cell? ⟨w.heap.size + 1 + 1, 0, none⟩ = some (.int .i64 0)) ∧
          Kept [] w (((W.setCell ⟨w.heap.size + 1, 0, none⟩ (.string S)).setCell ⟨w.heap.size + 1 + 1, 0, none⟩ (.int .i64 0)).putObj D (.deferred none))) := fun S => by
        have a6 := (o6.set 0 (.string S)).other (p := ⟨w.heap.size + 1 + 1, 0, none⟩) (by show w.heap.size + 1 ≠ w.heap.size + 1 + 1; omega) (.int .i64 0)
        have a7 := (o7.other (p := ⟨w.heap.size + 1, 0, none⟩) (by show w.heap.size + 1 + 1 ≠ w.heap.size + 1; omega) (.string S)).set 0 (.int .i64 0)
        have kD := kept_putObj ((W.setCell ⟨w.heap.size + 1, 0, none⟩ (.string S)).setCell ⟨w.heap.size + 1 + 1, 0, none⟩ (.int .i64 0)) D (.deferred none)
        have b6 := kD.own a6 (by simp; omega)
        have b7 := kD.own a7 (by simp; omega)
        exact ⟨(Below.heap_setCell _ _ _ D (by show D ≠ w.heap.size + 1 + 1; omega)).trans ((Below.heap_setCell _ _ _ D (by show D ≠ w.heap.size + 1; omega)).trans hK), ⟨b6.cell 0 (by simp), b7.cell 0 (by simp)⟩, ((kW.setCell (Or.inr (by show w.heap.size ≤ w.heap.size + 1; omega)) _).setCell (Or.inr (by show w.heap.size ≤ w.heap.size + 1 + 1; omega)) _).call kD (fun y hy => Or.inr (by rw [show y = D by simpa using hy]; omega))⟩
      rcases hrow.2 with ⟨rfl, hz0⟩ | ⟨g, cap, cur, rfl, hg1, hg2, hg3, hg4, hg5, hg6⟩
      · have : sz = 0 := by omega
        subst this
        have hconv : ∀ W : World, (convert 38 9 (.slice none 0 0)).run Try.prog W = .ok (.string ⟨#[]⟩) W := fun W => by kernel_rfl
        have hf := hfin ⟨#[]⟩
        clear hfin hK hrow o6 o7
        go_wp2_with fail
        refine retMD hf.out.1 ?_ ⟨rfl, hf.out.2.2⟩
        have c6 := hf.out.2.1.1
        have c7 := hf.out.2.1.2
        simp [results, Try.f14, go_sem, c6, c7]
        rfl
      · have hbytes : Lib.Bytes W g 0 (bs (GL.take sz)) := by
          intro i hi
          rw [bs_size, List.length_take] at hi
          have hi' : i < GL.length := by omega
          have := hrow.cells (g := g) rfl i (.int .u8 ((GL[i]'hi').toNat : Int)) (by simp [Lib.strCells, bs, hi'])
          rw [addr_add] at this
          rw [Nat.zero_add, this]
          show some (Value.int .u8 ((GL[i]).toNat : Int)) = some (Value.int .u8 (((GL.take sz)[i]'(by rw [List.length_take]; omega)).toNat : Int))
          rw [List.getElem_take]
        have hconv := Lib.run_convert_whole (P := Try.prog) W 38 5 9 Try.underlying38 Try.underlying5 Try.underlying9 _ _ _ hbytes cap
        have hl : (bs (GL.take sz)).size = sz := by rw [bs_size, List.length_take]; omega
        rw [hl] at hconv
        obtain ⟨S, hS⟩ : ∃ S, bs (GL.take sz) = S := ⟨_, rfl⟩
        rw [hS] at hconv
        have hf := hfin S
        have HS := Lib.hid hS
        clear hS
        generalize GL.length = gl at *
        have h1 : (sz : Int) ≤ gl := by omega
        have h2 : (gl : Int) ≤ cap := by omega
        have h3 : (sz : Int) ≤ cap := by omega
        clear hfin hK hrow o6 o7 hbytes hg2 hg5 hg6 hl hg1
        go_wp2_with fail
        refine retMD hf.out.1 ?_ ⟨rfl, hf.out.2.2⟩
        have c6 := hf.out.2.1.1
        have c7 := hf.out.2.1.2
        simp [results, Try.f14, go_sem, c6, c7]
        exact HS.out.symm
    case stop =>
      rintro D c pre W hD hpre ⟨x, hx, hne⟩ hK
      exfalso
      rw [hsE] at hpre
      exact hne (hat0 x (hpre.subset hx))
  · have hGX : getX d l size = [] := by unfold getX; rw [if_neg hG]
    unfold GetSays
    rw [hGX]
    generalize getCode d l size = G at *
    refine (callsIn_wide (n := 6)).1 ?_
    refine callsIn_of_wp_marks Try.func14 rfl trivial ?_ rfl
    simp only [Try.ntmps14, List.size_toArray, List.length_cons, List.length_nil, Nat.reduceAdd, Nat.reduceSub, Array.replicate_succ, Array.replicate_zero, List.push_toArray, List.append_toArray, List.nil_append, List.cons_append]
    refine wpIn_wide.2 ?_
    have o6 : Own (((w.alloc (.cells #[.pointer (some ⟨b, 0, none⟩)] 40)).alloc (.cells #[.string ⟨#[]⟩] 9)).alloc (.cells #[.int .i64 0] 32)) (w.heap.size + 1) #[.string ⟨#[]⟩] 9 := by
      have := (Own.new (w.alloc (.cells #[.pointer (some ⟨b, 0, none⟩)] 40)) #[.string ⟨#[]⟩] 9).alloc (.cells #[.int .i64 0] 32)
      simpa using this
    have o7 : Own (((w.alloc (.cells #[.pointer (some ⟨b, 0, none⟩)] 40)).alloc (.cells #[.string ⟨#[]⟩] 9)).alloc (.cells #[.int .i64 0] 32)) (w.heap.size + 1 + 1) #[.int .i64 0] 32 := by
      have := Own.new ((w.alloc (.cells #[.pointer (some ⟨b, 0, none⟩)] 40)).alloc (.cells #[.string ⟨#[]⟩] 9)) #[.int .i64 0] 32
      simpa using this
    go_wp2_with fail
    refine (HC _ k3).mono ?_; rintro e w1 ⟨rfl, k1⟩
    have k31 := k3.trans k1
    have o6 := k1.own o6 (by simp)
    have o7 := k1.own o7 (by simp)
    have c6 := o6.cell 0 (by simp)
    have z6 := o6.free 0
    have c7 := o7.cell 0 (by simp)
    have z7 := o7.free 0
    have e1 : (G != 0) = true := by simp [hG]
    go_wp2_with fail
    have a6 := (o6.set 0 (.string ⟨#[]⟩)).other (p := ⟨w.heap.size + 1 + 1, 0, none⟩) (by show w.heap.size + 1 ≠ w.heap.size + 1 + 1; omega) (.int .i64 G)
    have a7 := (o7.other (p := ⟨w.heap.size + 1, 0, none⟩) (by show w.heap.size + 1 + 1 ≠ w.heap.size + 1; omega) (.string ⟨#[]⟩)).set 0 (.int .i64 G)
    have b6 := a6.cell 0 (by simp)
    have b7 := a7.cell 0 (by simp)
    refine retM ?_ ⟨rfl, (k31.setCell (Or.inr (by show w.heap.size ≤ w.heap.size + 1; omega)) _).setCell (Or.inr (by show w.heap.size ≤ w.heap.size + 1 + 1; omega)) _⟩
    simp only [List.setIfInBounds_toArray, List.set_cons_zero] at b6 b7
    simp [results, Try.f14, go_sem, b6, b7, bs_nil]
end Go.Proofs.Ytdnbddhjdokbfaa
